/- prints: the writer: record, service, saga (printed by gen_prnb.py). No condition. -/
import Derived.Test.YtogijkhenihaaaaGreatDoorGP07
import Derived.Test.YtogijkhenihaaaaGreatDoorGP03
import Derived.Test.YtogijkhenihaaaaGreatDoorGP05
set_option linter.unusedVariables false
set_option linter.unusedSimpArgs false
namespace Go.Proofs.YtogijkhenihaaaaGreatDoor
open Go.RowKit Go.BigFrame
/-- A put that keeps a box. -/
theorem pwput_box (b:Nat) (L xs:List ByteArray) (n:Nat) (cs:Array Value) (hn:xs.length=n) (hc:(xs.map Value.string).toArray=cs) (w0 w W:World) (M:List ByteArray) (h:Prn.Put w0 w b L M W) (hl:L.length+M.length+xs.length≤8000000000000)
  {g:Nat} {T:TypeId} {bx:Array Value} (hq:Bk W g T bx) (h1:T≠9) (h2:T≠96) :
  Calls Tryz.prog 49 #[.pointer (some ⟨b,0,none⟩),.slice (some ⟨W.heap.size,0,none⟩) n n] (W.alloc (.cells cs 9)) fun e w'=>e=.returned (.tuple #[])∧Prn.Put w0 w b L (M++xs) w'∧Bk w' g T bx:=by
 subst hn hc
 have h1':=h.below (w2:=W.alloc (.cells (xs.map Value.string).toArray 9)) ((Below.refl _ _).alloc (Nat.le_refl _) _)
 have hrow:=strs_lit (W:=W) (l:=xs) rfl (by omega)
 have hbs:=h.bel.size
 refine (pwput_any b (L++M) xs _ w0 _ h1'.bel h1'.wr (ERow.mono hrow (fun _ _ hr=>hr.weak (fun b' e'=>⟨_,rfl,by injection e' with e';omega⟩)) (fun _ _ h=>h)) (by rw [List.length_append];omega)).mono ?_
 exact fun e w' ⟨k2,k3⟩=>⟨k2,h1'.step k3,k3.on.bk (hq.alloc _) h1 h2⟩
set_option maxRecDepth 100000 in
set_option maxHeartbeats 8000000 in
theorem pwrecord_any (b:Nat) (L:List ByteArray) (r:Id.Rec) (u:Value) (w0 w:World) (hb:Below w0.heap.size w0 w) (hw:Prn.Wr w w0.heap.size b L) (hv:Id.FldsR w0 none u r.fields) (hl:L.length+(Prn.recW r).length≤8000000000000) :
  Calls Tryz.prog 50 #[.pointer (some ⟨b,0,none⟩),.agg #[.string r.name,.bool r.choice,u]] w fun e w'=>e=.returned (.tuple #[])∧Prn.Put w0 w b L (Prn.recW r) w':=by
 obtain ⟨rn,rc,rf⟩:=r
 simp only at hv hl ⊢
 obtain ⟨A5,n5,c5,rfl⟩:=ERow.is hv
 have HN5:Hid (n5=rf.length):=Lib.hid (by obtain ⟨_,_,e,_⟩:=ERow.slice hv;injection e)
 have hm5:n5≤9223372036854775807:=by obtain ⟨_,_,e,_,_⟩:=ERow.slice hv;injection e;omega
 have H5:=Lib.hid hv
 have HP0:=Lib.hid (Prn.Put.start hb hw)
 have hlen:L.length+(rf.flatMap Prn.fldW).length+4≤8000000000000:=by have h:=hl;simp only [Prn.recW,List.length_cons,List.length_append,List.length_nil] at h;omega
 clear hb hw hv hl
 obtain ⟨wd,HWD⟩:∃ wd,Hid ((if rc then Id.wChoice else Id.wRecord)=wd):=⟨_,Lib.hid rfl⟩
 have HRW:Hid (Prn.recW ⟨rn,rc,rf⟩=[wd,rn,Id.sLeft]++(rf.flatMap Prn.fldW++[Id.sRight])):=Lib.hid (by rw [←HWD.out];rfl)
 rw [HRW.out]
 go_enter Tryz.func50,Tryz.ntmps50
 go_upto_region 1 with (fail)
 refine wp_named (fun V0 hW=>?_)
 obtain ⟨hbx,hqx,-⟩:=fresh_box hW
 have HPa:=Lib.hid (HP0.out.below hbx)
 have HQ:=Lib.hid hqx
 clear hW hbx hqx 
 obtain ⟨⟨b0,b1,b2⟩,-⟩:=HQ.out.k3
 cases rc
 case false =>
  obtain rfl:Id.wRecord=wd:=HWD.out
  clear HWD HRW
  go_wp2_with fail
  refine (pwput_box b L [Id.wRecord,rn,Id.sLeft] 3 #[.string Id.wRecord,.string rn,.string Id.sLeft] rfl rfl w0 w _ _ HPa.out (by simp only [List.length_cons,List.length_nil];omega) HQ.out (by decide) (by decide)).mono ?_
  rintro e V1 ⟨rfl,hp,hq⟩
  have HPb:=Lib.hid hp
  clear hp HQ
  have HQ:=Lib.hid hq
  clear hq
  clear b0 b1 b2
  obtain ⟨⟨b0,b1,b2⟩,-⟩:=HQ.out.k3
  go_wp2_with fail
  go_loopw [18] (fun i wr=>∃ (k:Nat),k≤n5∧i=.int .i64 k∧Hid (Prn.Put w0 w b L ([Id.wRecord,rn,Id.sLeft]++(rf.take k).flatMap Prn.fldW) wr)) (fun i _=>n5 - (intOf i).toNat)
  case atStart=>exact ⟨0,by omega,rfl,HPb⟩
  case round =>
   clear HPb HPa HQ b0 b1 b2
   obtain ⟨k,hk,rfl,HP⟩:=hrel
   obtain ⟨V,rfl⟩:∃ w',w'=wr:=⟨_,rfl⟩
   have ik0:(0:Int)≤(k:Int):=by omega
   by_cases hlt:k<n5
   case neg =>
    have HPx:Hid (Prn.Put w0 w b L ([Id.wRecord,rn,Id.sLeft]++rf.flatMap Prn.fldW) V):=Lib.hid (by have h:=HP.out;rw [List.take_of_length_le (by have:=HN5.out;omega)] at h;exact h)
    go_wp2_with fail
    refine (pwput_lit b L [Id.sRight] 1 #[.string Id.sRight] rfl rfl w0 w _ _ HPx.out (by simp only [List.length_append,List.length_cons,List.length_nil];omega)).mono ?_
    rintro e V9 ⟨rfl,hp⟩
    have HP9:=Lib.hid hp
    clear hp
    have HPy:Hid (Prn.Put w0 w b L ([Id.wRecord,rn,Id.sLeft]++(rf.flatMap Prn.fldW++[Id.sRight])) V9):=Lib.hid (HP9.out.cast (by simp only [List.append_assoc]))
    go_wp2_with fail
    exact bodyPost_end (results_none rfl _ _ _) rfl ⟨rfl,HPy.out⟩
   have hka:k<rf.length:=by rw [←HN5.out];exact hlt
   obtain ⟨g,off,cs,rfl,-,⟨u,he,HU⟩,hc⟩:=ERow.get H5.out hka (by omega)
   have hfl:=Prn.flat_take_le Prn.fldW hka
   have HTK:=Prn.take_flat Prn.fldW hka
   obtain ⟨⟨yn,yt⟩,Hy⟩:∃ y,Hid (rf[k]=y):=⟨_,Lib.hid rfl⟩
   rw [Hy.out] at he HU hfl HTK
   subst he
   simp only at HU hc
   obtain ⟨A7,n7,c7,rfl⟩:=ERow.is HU
   have H7:=Lib.hid HU
   have HTKH:=Lib.hid HTK
   have hfw:(Prn.fldW ⟨yn,yt⟩).length=yt.length+3:=by simp [Prn.fldW]
   rw [hfw] at hfl
   have a0:=hc 0 _ rfl
   have a1:=hc 1 _ rfl
   simp only [Nat.add_zero] at a0
   have hgl:g<w0.heap.size:=World.block_lt_of_cell? w0 _ a0
   have a0:=(HP.out.bel.cell hgl).trans a0
   have a1:=(HP.out.bel.cell hgl).trans a1
   have hbs:=HP.out.bel.size
   have hgne:¬g=V.heap.size:=by omega
   have ik1:(k:Int)<(n5:Int):=by omega
   generalize hM:((rf.take k).flatMap Prn.fldW).length=m at hfl
   have HM:=Lib.hid hM
   generalize hT:yt.length=tl at hfl
   have HTL:=Lib.hid hT
   clear hc HU HTK hfw hM hT Hy hbs
   go_upto_region 8 with (fail)
   refine wp_named (fun V1 hW=>?_)
   obtain ⟨hbx,hqx,-⟩:=fresh_box hW
   have HPc:=Lib.hid (HP.out.below hbx)
   have HQ:=Lib.hid hqx
   clear hW hbx hqx a0 a1 HP
   obtain ⟨⟨b0,b1⟩,-⟩:=HQ.out.k2
   go_wp2_with fail
   refine (pwput_box b L [yn,Id.sColon] 2 #[.string yn,.string Id.sColon] rfl rfl w0 w _ _ HPc.out (by simp only [List.length_append,List.length_cons,List.length_nil,HM.out];omega) HQ.out (by decide) (by decide)).mono ?_
   rintro e V2 ⟨rfl,hp,hq⟩
   have HPd:=Lib.hid hp
   clear hp HQ
   have HQ:=Lib.hid hq
   clear hq
   clear b0 b1
   obtain ⟨⟨b0,b1⟩,-⟩:=HQ.out.k2
   go_wp2_with fail
   refine (pwsorts_any b _ yt _ w0 V2 HPd.out.bel HPd.out.wr (fun w' hb _=>ERow.below H7.out hb (fun _ _ h=>h)) (by simp only [List.length_append,List.length_cons,List.length_nil,HM.out,HTL.out];omega)).mono ?_
   rintro e V3 ⟨rfl,hp⟩
   have HPe:=Lib.hid (HPd.out.step hp)
   clear hp b0 b1 HQ
   go_wp2_with fail
   refine (pwput_lit b L [Id.sSemi] 1 #[.string Id.sSemi] rfl rfl w0 w _ _ HPe.out (by simp only [List.length_append,List.length_cons,List.length_nil,List.length_map,HM.out,HTL.out];omega)).mono ?_
   rintro e V4 ⟨rfl,hp⟩
   have HPf:=Lib.hid hp
   clear hp
   have HPg:Hid (Prn.Put w0 w b L ([Id.wRecord,rn,Id.sLeft]++(rf.take (k+1)).flatMap Prn.fldW) V4):=Lib.hid (HPf.out.cast (by rw [HTKH.out];simp only [Prn.fldW,List.append_assoc,List.cons_append,List.nil_append]))
   go_wp2_with fail
   go_roundw
   case rel=>exact ⟨k+1,by omega,by go_num,HPg⟩
   case measure=>simp [intOf] <;> omega
 case true =>
  obtain rfl:Id.wChoice=wd:=HWD.out
  clear HWD HRW
  go_wp2_with fail
  refine (pwput_box b L [Id.wChoice,rn,Id.sLeft] 3 #[.string Id.wChoice,.string rn,.string Id.sLeft] rfl rfl w0 w _ _ HPa.out (by simp only [List.length_cons,List.length_nil];omega) HQ.out (by decide) (by decide)).mono ?_
  rintro e V1 ⟨rfl,hp,hq⟩
  have HPb:=Lib.hid hp
  clear hp HQ
  have HQ:=Lib.hid hq
  clear hq
  clear b0 b1 b2
  obtain ⟨⟨b0,b1,b2⟩,-⟩:=HQ.out.k3
  go_wp2_with fail
  go_loopw [18] (fun i wr=>∃ (k:Nat),k≤n5∧i=.int .i64 k∧Hid (Prn.Put w0 w b L ([Id.wChoice,rn,Id.sLeft]++(rf.take k).flatMap Prn.fldW) wr)) (fun i _=>n5 - (intOf i).toNat)
  case atStart=>exact ⟨0,by omega,rfl,HPb⟩
  case round =>
   clear HPb HPa HQ b0 b1 b2
   obtain ⟨k,hk,rfl,HP⟩:=hrel
   obtain ⟨V,rfl⟩:∃ w',w'=wr:=⟨_,rfl⟩
   have ik0:(0:Int)≤(k:Int):=by omega
   by_cases hlt:k<n5
   case neg =>
    have HPx:Hid (Prn.Put w0 w b L ([Id.wChoice,rn,Id.sLeft]++rf.flatMap Prn.fldW) V):=Lib.hid (by have h:=HP.out;rw [List.take_of_length_le (by have:=HN5.out;omega)] at h;exact h)
    go_wp2_with fail
    refine (pwput_lit b L [Id.sRight] 1 #[.string Id.sRight] rfl rfl w0 w _ _ HPx.out (by simp only [List.length_append,List.length_cons,List.length_nil];omega)).mono ?_
    rintro e V9 ⟨rfl,hp⟩
    have HP9:=Lib.hid hp
    clear hp
    have HPy:Hid (Prn.Put w0 w b L ([Id.wChoice,rn,Id.sLeft]++(rf.flatMap Prn.fldW++[Id.sRight])) V9):=Lib.hid (HP9.out.cast (by simp only [List.append_assoc]))
    go_wp2_with fail
    exact bodyPost_end (results_none rfl _ _ _) rfl ⟨rfl,HPy.out⟩
   have hka:k<rf.length:=by rw [←HN5.out];exact hlt
   obtain ⟨g,off,cs,rfl,-,⟨u,he,HU⟩,hc⟩:=ERow.get H5.out hka (by omega)
   have hfl:=Prn.flat_take_le Prn.fldW hka
   have HTK:=Prn.take_flat Prn.fldW hka
   obtain ⟨⟨yn,yt⟩,Hy⟩:∃ y,Hid (rf[k]=y):=⟨_,Lib.hid rfl⟩
   rw [Hy.out] at he HU hfl HTK
   subst he
   simp only at HU hc
   obtain ⟨A7,n7,c7,rfl⟩:=ERow.is HU
   have H7:=Lib.hid HU
   have HTKH:=Lib.hid HTK
   have hfw:(Prn.fldW ⟨yn,yt⟩).length=yt.length+3:=by simp [Prn.fldW]
   rw [hfw] at hfl
   have a0:=hc 0 _ rfl
   have a1:=hc 1 _ rfl
   simp only [Nat.add_zero] at a0
   have hgl:g<w0.heap.size:=World.block_lt_of_cell? w0 _ a0
   have a0:=(HP.out.bel.cell hgl).trans a0
   have a1:=(HP.out.bel.cell hgl).trans a1
   have hbs:=HP.out.bel.size
   have hgne:¬g=V.heap.size:=by omega
   have ik1:(k:Int)<(n5:Int):=by omega
   generalize hM:((rf.take k).flatMap Prn.fldW).length=m at hfl
   have HM:=Lib.hid hM
   generalize hT:yt.length=tl at hfl
   have HTL:=Lib.hid hT
   clear hc HU HTK hfw hM hT Hy hbs
   go_upto_region 8 with (fail)
   refine wp_named (fun V1 hW=>?_)
   obtain ⟨hbx,hqx,-⟩:=fresh_box hW
   have HPc:=Lib.hid (HP.out.below hbx)
   have HQ:=Lib.hid hqx
   clear hW hbx hqx a0 a1 HP
   obtain ⟨⟨b0,b1⟩,-⟩:=HQ.out.k2
   go_wp2_with fail
   refine (pwput_box b L [yn,Id.sColon] 2 #[.string yn,.string Id.sColon] rfl rfl w0 w _ _ HPc.out (by simp only [List.length_append,List.length_cons,List.length_nil,HM.out];omega) HQ.out (by decide) (by decide)).mono ?_
   rintro e V2 ⟨rfl,hp,hq⟩
   have HPd:=Lib.hid hp
   clear hp HQ
   have HQ:=Lib.hid hq
   clear hq
   clear b0 b1
   obtain ⟨⟨b0,b1⟩,-⟩:=HQ.out.k2
   go_wp2_with fail
   refine (pwsorts_any b _ yt _ w0 V2 HPd.out.bel HPd.out.wr (fun w' hb _=>ERow.below H7.out hb (fun _ _ h=>h)) (by simp only [List.length_append,List.length_cons,List.length_nil,HM.out,HTL.out];omega)).mono ?_
   rintro e V3 ⟨rfl,hp⟩
   have HPe:=Lib.hid (HPd.out.step hp)
   clear hp b0 b1 HQ
   go_wp2_with fail
   refine (pwput_lit b L [Id.sSemi] 1 #[.string Id.sSemi] rfl rfl w0 w _ _ HPe.out (by simp only [List.length_append,List.length_cons,List.length_nil,List.length_map,HM.out,HTL.out];omega)).mono ?_
   rintro e V4 ⟨rfl,hp⟩
   have HPf:=Lib.hid hp
   clear hp
   have HPg:Hid (Prn.Put w0 w b L ([Id.wChoice,rn,Id.sLeft]++(rf.take (k+1)).flatMap Prn.fldW) V4):=Lib.hid (HPf.out.cast (by rw [HTKH.out];simp only [Prn.fldW,List.append_assoc,List.cons_append,List.nil_append]))
   go_wp2_with fail
   go_roundw
   case rel=>exact ⟨k+1,by omega,by go_num,HPg⟩
   case measure=>simp [intOf] <;> omega
set_option maxRecDepth 100000 in
set_option maxHeartbeats 8000000 in
theorem pwservice_any (b:Nat) (L:List ByteArray) (r:Id.Svc) (u:Value) (w0 w:World) (hb:Below w0.heap.size w0 w) (hw:Prn.Wr w w0.heap.size b L) (hv:ERow w0 none 180 5 Id.MthE u r.methods) (hl:L.length+(Prn.svcW r).length≤8000000000000) :
  Calls Tryz.prog 51 #[.pointer (some ⟨b,0,none⟩),.agg #[.string r.name,u]] w fun e w'=>e=.returned (.tuple #[])∧Prn.Put w0 w b L (Prn.svcW r) w':=by
 obtain ⟨rn,rf⟩:=r
 simp only at hv hl ⊢
 obtain ⟨A5,n5,c5,rfl⟩:=ERow.is hv
 have HN5:Hid (n5=rf.length):=Lib.hid (by obtain ⟨_,_,e,_⟩:=ERow.slice hv;injection e)
 have hm5:n5≤9223372036854775807:=by obtain ⟨_,_,e,_,_⟩:=ERow.slice hv;injection e;omega
 have H5:=Lib.hid hv
 have HP0:=Lib.hid (Prn.Put.start hb hw)
 have hlen:L.length+(rf.flatMap Prn.mthW).length+4≤8000000000000:=by have h:=hl;simp only [Prn.svcW,List.length_cons,List.length_append,List.length_nil] at h;omega
 clear hb hw hv hl
 have HRW:Hid (Prn.svcW ⟨rn,rf⟩=[Id.wService,rn,Id.sLeft]++(rf.flatMap Prn.mthW++[Id.sRight])):=Lib.hid rfl
 rw [HRW.out]
 clear HRW
 go_enter Tryz.func51,Tryz.ntmps51
 go_upto_region 1 with (fail)
 refine wp_named (fun V0 hW=>?_)
 obtain ⟨hbx,hqx,-⟩:=fresh_box hW
 have HPa:=Lib.hid (HP0.out.below hbx)
 have HQ:=Lib.hid hqx
 clear hW hbx hqx 
 obtain ⟨⟨b0,b1⟩,-⟩:=HQ.out.k2
 go_wp2_with fail
 refine (pwput_box b L [Id.wService,rn,Id.sLeft] 3 #[.string Id.wService,.string rn,.string Id.sLeft] rfl rfl w0 w _ _ HPa.out (by simp only [List.length_cons,List.length_nil];omega) HQ.out (by decide) (by decide)).mono ?_
 rintro e V1 ⟨rfl,hp,hq⟩
 have HPb:=Lib.hid hp
 clear hp HQ
 have HQ:=Lib.hid hq
 clear hq
 clear b0 b1
 obtain ⟨⟨b0,b1⟩,-⟩:=HQ.out.k2
 go_wp2_with fail
 go_loopw [14] (fun i wr=>∃ (k:Nat),k≤n5∧i=.int .i64 k∧Hid (Prn.Put w0 w b L ([Id.wService,rn,Id.sLeft]++(rf.take k).flatMap Prn.mthW) wr)) (fun i _=>n5 - (intOf i).toNat)
 case atStart=>exact ⟨0,by omega,rfl,HPb⟩
 case round =>
  clear HPb HPa HQ b0 b1
  obtain ⟨k,hk,rfl,HP⟩:=hrel
  obtain ⟨V,rfl⟩:∃ w',w'=wr:=⟨_,rfl⟩
  have ik0:(0:Int)≤(k:Int):=by omega
  by_cases hlt:k<n5
  case neg =>
   have HPx:Hid (Prn.Put w0 w b L ([Id.wService,rn,Id.sLeft]++rf.flatMap Prn.mthW) V):=Lib.hid (by have h:=HP.out;rw [List.take_of_length_le (by have:=HN5.out;omega)] at h;exact h)
   go_wp2_with fail
   refine (pwput_lit b L [Id.sRight] 1 #[.string Id.sRight] rfl rfl w0 w _ _ HPx.out (by simp only [List.length_append,List.length_cons,List.length_nil];omega)).mono ?_
   rintro e V9 ⟨rfl,hp⟩
   have HP9:=Lib.hid hp
   clear hp
   have HPy:Hid (Prn.Put w0 w b L ([Id.wService,rn,Id.sLeft]++(rf.flatMap Prn.mthW++[Id.sRight])) V9):=Lib.hid (HP9.out.cast (by simp only [List.append_assoc]))
   go_wp2_with fail
   exact bodyPost_end (results_none rfl _ _ _) rfl ⟨rfl,HPy.out⟩
  have hka:k<rf.length:=by rw [←HN5.out];exact hlt
  obtain ⟨g,off,cs,rfl,-,he,hc⟩:=ERow.get H5.out hka (by omega)
  have hfl:=Prn.flat_take_le Prn.mthW hka
  have HTK:=Prn.take_flat Prn.mthW hka
  obtain ⟨⟨m0,m1,m2,m3,m4⟩,Hy⟩:∃ y,Hid (rf[k]=y):=⟨_,Lib.hid rfl⟩
  rw [Hy.out] at he hfl HTK
  unfold Id.MthE Id.Mth.cells at he
  subst he
  have HTKH:=Lib.hid HTK
  have hfw:(Prn.mthW ⟨m0,m1,m2,m3,m4⟩).length=(Prn.undoW ⟨m0,m1,m2,m3,m4⟩).length+8:=by simp [Prn.mthW]
  rw [hfw] at hfl
  have a0:=hc 0 _ rfl
  have a1:=hc 1 _ rfl
  have a2:=hc 2 _ rfl
  have a3:=hc 3 _ rfl
  have a4:=hc 4 _ rfl
  simp only [Nat.add_zero] at a0
  have hgl:g<w0.heap.size:=World.block_lt_of_cell? w0 _ a0
  have a0:=(HP.out.bel.cell hgl).trans a0
  have a1:=(HP.out.bel.cell hgl).trans a1
  have a2:=(HP.out.bel.cell hgl).trans a2
  have a3:=(HP.out.bel.cell hgl).trans a3
  have a4:=(HP.out.bel.cell hgl).trans a4
  have hbs:=HP.out.bel.size
  have hgne:¬g=V.heap.size:=by omega
  have ik1:(k:Int)<(n5:Int):=by omega
  generalize hM:((rf.take k).flatMap Prn.mthW).length=m at hfl
  have HM:=Lib.hid hM
  clear hc HTK hfw hM Hy hbs
  go_upto_region 5 with (fail)
  refine wp_named (fun V1 hW=>?_)
  obtain ⟨hbx,hqx,-⟩:=fresh_box hW
  have HPc:=Lib.hid (HP.out.below hbx)
  have HQ:=Lib.hid hqx
  clear hW hbx hqx a0 a1 a2 a3 a4 HP
  obtain ⟨⟨b0,b1,b2,b3,b4⟩,-⟩:=HQ.out.k5
  go_wp2_with fail
  refine (pwput_box b L [m3,m0,Id.sOpen,m1,Id.sClose,Id.sArrow] 6 #[.string m3,.string m0,.string Id.sOpen,.string m1,.string Id.sClose,.string Id.sArrow] rfl rfl w0 w _ _ HPc.out (by simp only [List.length_append,List.length_cons,List.length_nil,HM.out];omega) HQ.out (by decide) (by decide)).mono ?_
  rintro e V2 ⟨rfl,hp,hq⟩
  have HPd:=Lib.hid hp
  clear hp HQ
  have HQ:=Lib.hid hq
  clear hq
  clear b0 b1 b2 b3 b4
  obtain ⟨⟨b0,b1,b2,b3,b4⟩,-⟩:=HQ.out.k5
  go_wp2_with fail
  have HPd2:=Lib.hid (HPd.out.below (w2:=V2.alloc (.cells #[.int .u8 m2,.string ⟨#[]⟩] 44)) ((Below.refl _ _).alloc (Nat.le_refl _) _))
  refine (pwsorts_any b _ [⟨m2,⟨#[]⟩⟩] _ w0 _ HPd2.out.bel HPd2.out.wr (fun w' _ ho=>sorts_one (ho.bk (Bk.new V2 _ _) (by decide) (by decide))) (by simp only [List.length_append,List.length_cons,List.length_nil,HM.out];omega)).mono ?_
  rintro e V3 ⟨rfl,hp⟩
  have HPe:=Lib.hid (HPd2.out.step hp)
  have hq3:=hp.on.bk (HQ.out.alloc _) (by decide) (by decide)
  clear hp b0 b1 b2 b3 b4 HQ
  have HQ:=Lib.hid hq3
  clear hq3
  obtain ⟨⟨b0,b1,b2,b3,b4⟩,-⟩:=HQ.out.k5
  cases hu:m4.toList.isEmpty
  case true =>
   have HUW:Hid (Prn.undoW ⟨m0,m1,m2,m3,m4⟩=[]):=Lib.hid (by unfold Prn.undoW;rw [if_pos hu])
   have hul:(Prn.undoW ⟨m0,m1,m2,m3,m4⟩).length=0:=by rw [HUW.out];rfl
   rw [hul] at hfl
   clear hul HQ
   go_wp2_with fail
   refine (pwput_lit b L [Id.sSemi] 1 #[.string Id.sSemi] rfl rfl w0 w _ _ HPe.out (by simp only [List.length_append,List.length_cons,List.length_nil,List.length_map,HM.out];omega)).mono ?_
   rintro e V5 ⟨rfl,hp⟩
   have HPf:=Lib.hid hp
   clear hp
   have HPg:Hid (Prn.Put w0 w b L ([Id.wService,rn,Id.sLeft]++(rf.take (k+1)).flatMap Prn.mthW) V5):=Lib.hid (HPf.out.cast (by rw [HTKH.out];simp only [Prn.mthW,HUW.out,List.append_assoc,List.cons_append,List.nil_append,List.map_cons,List.map_nil]))
   go_wp2_with fail
   go_roundw
   case rel=>exact ⟨k+1,by omega,by go_num,HPg⟩
   case measure=>simp [intOf] <;> omega
  case false =>
   have HUW:Hid (Prn.undoW ⟨m0,m1,m2,m3,m4⟩=[Id.wUndo,m4]):=Lib.hid (by unfold Prn.undoW;rw [if_neg (by rw [hu];decide)])
   have hul:(Prn.undoW ⟨m0,m1,m2,m3,m4⟩).length=2:=by rw [HUW.out];rfl
   rw [hul] at hfl
   clear hul
   go_wp2_with fail
   refine (pwput_box b L [Id.wUndo,m4] 2 #[.string Id.wUndo,.string m4] rfl rfl w0 w _ _ HPe.out (by simp only [List.length_append,List.length_cons,List.length_nil,List.length_map,HM.out];omega) HQ.out (by decide) (by decide)).mono ?_
   rintro e V4 ⟨rfl,hp,hq⟩
   have HPq:=Lib.hid hp
   clear hp HQ
   have HQ:=Lib.hid hq
   clear hq
   clear b0 b1 b2 b3 b4 HQ
   go_wp2_with fail
   refine (pwput_lit b L [Id.sSemi] 1 #[.string Id.sSemi] rfl rfl w0 w _ _ HPq.out (by simp only [List.length_append,List.length_cons,List.length_nil,List.length_map,HM.out];omega)).mono ?_
   rintro e V5 ⟨rfl,hp⟩
   have HPf:=Lib.hid hp
   clear hp
   have HPg:Hid (Prn.Put w0 w b L ([Id.wService,rn,Id.sLeft]++(rf.take (k+1)).flatMap Prn.mthW) V5):=Lib.hid (HPf.out.cast (by rw [HTKH.out];simp only [Prn.mthW,HUW.out,List.append_assoc,List.cons_append,List.nil_append,List.map_cons,List.map_nil]))
   go_wp2_with fail
   go_roundw
   case rel=>exact ⟨k+1,by omega,by go_num,HPg⟩
   case measure=>simp [intOf] <;> omega
set_option maxRecDepth 100000 in
set_option maxHeartbeats 8000000 in
theorem pwsaga_any (b:Nat) (L:List ByteArray) (r:Id.Sag) (u:Value) (w0 w:World) (hb:Below w0.heap.size w0 w) (hw:Prn.Wr w w0.heap.size b L) (hv:ERow w0 none 184 3 Id.StpE u r.steps) (ha:∀ p∈r.steps,0≤p.at_∧p.at_<100) (hl:L.length+(Prn.sagW r).length≤8000000000000) :
  Calls Tryz.prog 52 #[.pointer (some ⟨b,0,none⟩),.agg #[.string r.name,.string r.arg,u]] w fun e w'=>e=.returned (.tuple #[])∧Prn.Put w0 w b L (Prn.sagW r) w':=by
 have HAT:=Lib.hid ha
 clear ha
 obtain ⟨rn,ra,rf⟩:=r
 simp only at hv hl HAT ⊢
 obtain ⟨A5,n5,c5,rfl⟩:=ERow.is hv
 have HN5:Hid (n5=rf.length):=Lib.hid (by obtain ⟨_,_,e,_⟩:=ERow.slice hv;injection e)
 have hm5:n5≤9223372036854775807:=by obtain ⟨_,_,e,_,_⟩:=ERow.slice hv;injection e;omega
 have H5:=Lib.hid hv
 have HP0:=Lib.hid (Prn.Put.start hb hw)
 have hlen:L.length+(rf.flatMap Prn.stpW).length+7≤8000000000000:=by have h:=hl;simp only [Prn.sagW,List.length_cons,List.length_append,List.length_nil] at h;omega
 clear hb hw hv hl
 have HRW:Hid (Prn.sagW ⟨rn,ra,rf⟩=[Id.wSaga,rn,Id.sOpen,ra,Id.sClose,Id.sLeft]++(rf.flatMap Prn.stpW++[Id.sRight])):=Lib.hid rfl
 rw [HRW.out]
 clear HRW
 go_enter Tryz.func52,Tryz.ntmps52
 go_upto_region 1 with (fail)
 refine wp_named (fun V0 hW=>?_)
 obtain ⟨hbx,hqx,-⟩:=fresh_box hW
 have HPa:=Lib.hid (HP0.out.below hbx)
 have HQ:=Lib.hid hqx
 clear hW hbx hqx 
 obtain ⟨⟨b0,b1,b2⟩,-⟩:=HQ.out.k3
 go_wp2_with fail
 refine (pwput_box b L [Id.wSaga,rn,Id.sOpen,ra,Id.sClose,Id.sLeft] 6 #[.string Id.wSaga,.string rn,.string Id.sOpen,.string ra,.string Id.sClose,.string Id.sLeft] rfl rfl w0 w _ _ HPa.out (by simp only [List.length_cons,List.length_nil];omega) HQ.out (by decide) (by decide)).mono ?_
 rintro e V1 ⟨rfl,hp,hq⟩
 have HPb:=Lib.hid hp
 clear hp HQ
 have HQ:=Lib.hid hq
 clear hq
 clear b0 b1 b2
 obtain ⟨⟨b0,b1,b2⟩,-⟩:=HQ.out.k3
 go_wp2_with fail
 go_loopw [16] (fun i wr=>∃ (k:Nat),k≤n5∧i=.int .i64 k∧Hid (Prn.Put w0 w b L ([Id.wSaga,rn,Id.sOpen,ra,Id.sClose,Id.sLeft]++(rf.take k).flatMap Prn.stpW) wr)) (fun i _=>n5 - (intOf i).toNat)
 case atStart=>exact ⟨0,by omega,rfl,HPb⟩
 case round =>
  clear HPb HPa HQ b0 b1 b2
  obtain ⟨k,hk,rfl,HP⟩:=hrel
  obtain ⟨V,rfl⟩:∃ w',w'=wr:=⟨_,rfl⟩
  have ik0:(0:Int)≤(k:Int):=by omega
  by_cases hlt:k<n5
  case neg =>
   have HPx:Hid (Prn.Put w0 w b L ([Id.wSaga,rn,Id.sOpen,ra,Id.sClose,Id.sLeft]++rf.flatMap Prn.stpW) V):=Lib.hid (by have h:=HP.out;rw [List.take_of_length_le (by have:=HN5.out;omega)] at h;exact h)
   go_wp2_with fail
   refine (pwput_lit b L [Id.sRight] 1 #[.string Id.sRight] rfl rfl w0 w _ _ HPx.out (by simp only [List.length_append,List.length_cons,List.length_nil];omega)).mono ?_
   rintro e V9 ⟨rfl,hp⟩
   have HP9:=Lib.hid hp
   clear hp
   have HPy:Hid (Prn.Put w0 w b L ([Id.wSaga,rn,Id.sOpen,ra,Id.sClose,Id.sLeft]++(rf.flatMap Prn.stpW++[Id.sRight])) V9):=Lib.hid (HP9.out.cast (by simp only [List.append_assoc]))
   go_wp2_with fail
   exact bodyPost_end (results_none rfl _ _ _) rfl ⟨rfl,HPy.out⟩
  have hka:k<rf.length:=by rw [←HN5.out];exact hlt
  obtain ⟨g,off,cs,rfl,-,he,hc⟩:=ERow.get H5.out hka (by omega)
  have hfl:=Prn.flat_take_le Prn.stpW hka
  have HTK:=Prn.take_flat Prn.stpW hka
  have hat:=HAT.out _ (List.getElem_mem hka)
  obtain ⟨⟨p0,p1,p2⟩,Hy⟩:∃ y,Hid (rf[k]=y):=⟨_,Lib.hid rfl⟩
  rw [Hy.out] at he hfl HTK hat
  unfold Id.StpE Id.Stp.cells at he
  subst he
  have HTKH:=Lib.hid HTK
  simp only at hat
  obtain ⟨q,rfl⟩:∃ q:Nat,p2=q:=⟨p2.toNat,by omega⟩
  have hq100:q<100:=by omega
  have HNW:Hid ((⟨(Lib.decDigits q).toArray⟩:ByteArray)=Prn.numW q):=Lib.hid (by unfold Prn.numW;rw [Lib.itoa_nonneg])
  have hfw:(Prn.stpW ⟨p0,p1,(q:Int)⟩).length=7:=rfl
  rw [hfw] at hfl
  have a0:=hc 0 _ rfl
  have a1:=hc 1 _ rfl
  have a2:=hc 2 _ rfl
  simp only [Nat.add_zero] at a0
  have hgl:g<w0.heap.size:=World.block_lt_of_cell? w0 _ a0
  have a0:=(HP.out.bel.cell hgl).trans a0
  have a1:=(HP.out.bel.cell hgl).trans a1
  have a2:=(HP.out.bel.cell hgl).trans a2
  have hbs:=HP.out.bel.size
  have hgne:¬g=V.heap.size:=by omega
  have ik1:(k:Int)<(n5:Int):=by omega
  generalize hM:((rf.take k).flatMap Prn.stpW).length=m at hfl
  have HM:=Lib.hid hM
  clear hc HTK hfw hM Hy hbs hat
  go_upto_region 5 with (fail)
  refine wp_named (fun V1 hW=>?_)
  obtain ⟨hbx,hqx,-⟩:=fresh_box hW
  have HPc:=Lib.hid (HP.out.below hbx)
  have HQ:=Lib.hid hqx
  clear hW hbx hqx a0 a1 a2 HP
  have hS:Bk V1.drew V.heap.size 184 _:=HQ.out.drew
  refine wp_region_L_calm (fun w'=>Bk w' V.heap.size 184 _) [9] (by kernel_rfl) hS (fun hHeld=>?_)
  (refine wpAnyL_take0 0 (v:=?_) rfl (by kernel_rfl) (by kernel_rfl) (by kernel_rfl) (by kernel_rfl) (fun _ _ _ h=>h) (fun _=>by assumption) (by rfl) ?_ ?_;rotate_left;· (intro w;go_simp;try with_reducible rfl);try simp only [Act.put,List.setIfInBounds_toArray,List.set_cons_zero,List.set_cons_succ])
  (refine wpAnyL_take0 1 (v:=?_) rfl (by kernel_rfl) (by kernel_rfl) (by kernel_rfl) (by kernel_rfl) (fun _ _ _ h=>h) (fun _=>by assumption) (by rfl) ?_ ?_;rotate_left;· (intro w;go_simp;try with_reducible rfl);try simp only [Act.put,List.setIfInBounds_toArray,List.set_cons_zero,List.set_cons_succ])
  (refine Lst.takeZ 9 2 (v:=?_) rfl (by kernel_rfl) (by kernel_rfl) (by kernel_rfl) (by kernel_rfl) (by kernel_rfl) (by kernel_rfl) (fun _ _ _ h=>h) (by assumption) (by rfl) ?_ ?_;rotate_left;· (intro w hSw;obtain ⟨⟨e0,e1,e2⟩,-⟩:=hSw.k3;go_simp;try with_reducible rfl);try simp only [Act.put,List.setIfInBounds_toArray,List.set_cons_zero,List.set_cons_succ])
  (refine wpAnyL_take0 3 (v:=?_) rfl (by kernel_rfl) (by kernel_rfl) (by kernel_rfl) (by kernel_rfl) (fun _ _ _ h=>h) (fun _=>by assumption) (by rfl) ?_ ?_;rotate_left;· (intro w;go_simp;try with_reducible rfl);try simp only [Act.put,List.setIfInBounds_toArray,List.set_cons_zero,List.set_cons_succ])
  (refine Lst.takeZ 9 4 (v:=?_) rfl (by kernel_rfl) (by kernel_rfl) (by kernel_rfl) (by kernel_rfl) (by kernel_rfl) (by kernel_rfl) (fun _ _ _ h=>h) (by assumption) (by rfl) ?_ ?_;rotate_left;· (intro w hSw;obtain ⟨⟨e0,e1,e2⟩,-⟩:=hSw.k3;go_simp;try with_reducible rfl);try simp only [Act.put,List.setIfInBounds_toArray,List.set_cons_zero,List.set_cons_succ])
  (refine wpAnyL_take0 5 (v:=?_) rfl (by kernel_rfl) (by kernel_rfl) (by kernel_rfl) (by kernel_rfl) (fun _ _ _ h=>h) (fun _=>by assumption) (by rfl) ?_ ?_;rotate_left;· (intro w;go_simp;try with_reducible rfl);try simp only [Act.put,List.setIfInBounds_toArray,List.set_cons_zero,List.set_cons_succ])
  (refine Lst.takeZ 9 6 (v:=?_) rfl (by kernel_rfl) (by kernel_rfl) (by kernel_rfl) (by kernel_rfl) (by kernel_rfl) (by kernel_rfl) (fun _ _ _ h=>h) (by assumption) (by rfl) ?_ ?_;rotate_left;· (intro w hSw;obtain ⟨⟨e0,e1,e2⟩,-⟩:=hSw.k3;go_simp;try with_reducible rfl);try simp only [Act.put,List.setIfInBounds_toArray,List.set_cons_zero,List.set_cons_succ])
  (refine wpAnyL_step 7 (by kernel_rfl) rfl (fun K hK=>?_))
  go_simp
  refine (Tryz.strconv_Itoa_small q hq100 _).mono ?_
  rw [HNW.out]
  rintro e X ⟨rfl,rfl⟩
  (refine hK.out _ _ (fun hnn=>hS) ?_;clear hK K;try simp only [Act.put,List.setIfInBounds_toArray,List.set_cons_zero,List.set_cons_succ])
  (refine wpAnyL_step 8 (by kernel_rfl) rfl (fun K hK=>?_))
  go_simp
  have hbl:Below V1.heap.size V1 (V1.drew.alloc (.cells #[.string Id.wDo,.string p0,.string Id.sDot,.string p1,.string Id.wAt,.string (Prn.numW q),.string Id.sSemi] 9)):=(Below.refl _ _).drew.alloc (Nat.le_refl _) _
  (refine hK.out _ _ (fun hnn=>HQ.out.below hbl HQ.out.lt) ?_;clear hK K;try simp only [Act.put,List.setIfInBounds_toArray,List.set_cons_zero,List.set_cons_succ])
  (refine wpAnyL_step 9 (by kernel_rfl) rfl (fun K hK=>?_))
  go_simp
  have HPcd:=Lib.hid (HPc.out.below (w2:=V1.drew) ((Below.refl _ _).drew))
  refine (pwput_lit b L [Id.wDo,p0,Id.sDot,p1,Id.wAt,Prn.numW q,Id.sSemi] 7 #[.string Id.wDo,.string p0,.string Id.sDot,.string p1,.string Id.wAt,.string (Prn.numW q),.string Id.sSemi] rfl rfl w0 w V1.drew _ HPcd.out (by simp only [List.length_append,List.length_cons,List.length_nil,HM.out];omega)).mono ?_
  rintro e V2 ⟨rfl,hp⟩
  have HPg:Hid (Prn.Put w0 w b L ([Id.wSaga,rn,Id.sOpen,ra,Id.sClose,Id.sLeft]++(rf.take (k+1)).flatMap Prn.stpW) V2):=Lib.hid (hp.cast (by rw [HTKH.out];simp only [Prn.stpW,List.append_assoc]))
  clear hp
  (refine hK.out _ _ (fun hnn=>absurd hnn (by decide)) ?_;clear hK K;try simp only [Act.put,List.setIfInBounds_toArray,List.set_cons_zero,List.set_cons_succ])
  refine wpAnyL_done (by kernel_rfl) ?_ _
  refine NoPanic.normal ?_
  clear hHeld hS
  go_wp2_with fail
  go_roundw
  case rel=>exact ⟨k+1,by omega,by go_num,HPg⟩
  case measure=>simp [intOf] <;> omega
end Go.Proofs.YtogijkhenihaaaaGreatDoor
set_option linter.unusedVariables false
namespace Go.Proofs.YtogijkhenihaaaaGreatDoor
namespace Tk
/-- What stands at a place, in words of what stands from there on. -/
theorem byte_from (s:ByteArray) (k:Nat):byte s k=((from_ s k).getD 0 0).toNat:=by
 unfold byte from_
 simp [List.getD_eq_getElem?_getD]
theorem extract_eq {s t:ByteArray} {k e k' e':Nat} (h:(from_ s k).take (e - k)=(from_ t k').take (e' - k')):s.extract k e=t.extract k' e':=by
 have h1:=Lib.extract_data s k e
 have h2:=Lib.extract_data t k' e'
 unfold from_ at h
 rw [h,←h2] at h1
 have h3:(s.extract k e).data=(t.extract k' e').data:=Array.toList_inj.1 h1
 cases hs:s.extract k e
 cases ht:t.extract k' e'
 rw [hs,ht] at h3
 simp only at h3
 rw [h3]
theorem num_from (s:ByteArray) (k e:Nat):num s k e=numOn 0 ((from_ s k).take (e - k)):=by
 unfold num from_
 rw [List.drop_take]
theorem size_from (s:ByteArray) (k:Nat):(from_ s k).length=s.size - k:=by unfold from_;simp
/-- A token, moved. -/
def Tok.move (m:Nat) (t:Tok):Tok:={ t with at_:=m+t.at_ }
theorem scan_ok {d:Nat} {s:ByteArray} {k f:Nat} {acc:List Tok} (h:k<s.size) (he:(oneAt d s k).2=0):scan d s (f+1) k acc=scan d s f (gapEnd false s (k+(oneAt d s k).1.text.size)) (acc++[(oneAt d s k).1]):=by
 rw [scan,if_pos h,if_neg (by simpa using he)]
theorem scan_err {d:Nat} {s:ByteArray} {k f:Nat} {acc:List Tok} (h:k<s.size) (he:(oneAt d s k).2≠0):scan d s (f+1) k acc=([],k,(oneAt d s k).2):=by
 rw [scan,if_pos h,if_pos he]
section shift
variable {c b : ByteArray} {m : Nat} (hc : ∀ k, from_ c (m + k) = from_ b k) (hz : c.size = m + b.size)
include hc
theorem shift_byte (k:Nat):byte c (m+k)=byte b k:=by rw [byte_from,byte_from,hc]
theorem shift_run (p:Nat→Bool) (k:Nat):runEnd p c (m+k)=m+runEnd p b k:=by unfold runEnd;rw [hc];omega
theorem shift_gap (g:Bool) (k:Nat):gapEnd g c (m+k)=m+gapEnd g b k:=by unfold gapEnd;rw [hc];omega
theorem shift_extract (k e:Nat):c.extract (m+k) (m+e)=b.extract k e:=extract_eq (by rw [hc];congr 1;omega)
theorem shift_num (k e:Nat):num c (m+k) (m+e)=num b k e:=by rw [num_from,num_from,hc];congr 2;omega
include hz
theorem shift_one (d k:Nat):oneAt d c (m+k)=((oneAt d b k).1.move m,(oneAt d b k).2):=by
 unfold oneAt
 dsimp only
 rw [shift_byte hc,Nat.add_assoc,shift_byte hc,shift_run hc,shift_run hc,shift_extract hc,shift_extract hc,shift_extract hc,shift_num hc]
 have e1:∀ x,m+x - (m+k)=x - k:=fun x=>by omega
 have e2:(m+(k+1)<c.size)=(k+1<b.size):=by rw [hz];simp
 simp only [e1,e2]
 split
 ·rfl
 ·split
  ·split
   ·rfl
   ·split <;> rfl
  ·split
   ·rfl
   ·split <;> rfl
theorem shift_scan (d:Nat) (pre:List Tok):∀ (f k:Nat) (acc:List Tok),scan d c f (m+k) (pre++acc.map (Tok.move m)) =
  if (scan d b f k acc).2.2≠0 then ([],m+(scan d b f k acc).2.1,(scan d b f k acc).2.2) else (pre++(scan d b f k acc).1.map (Tok.move m),0,0)
 | 0,k,acc=>rfl
 | f+1,k,acc=>by
  by_cases h1:k<b.size
  ·by_cases h2:(oneAt d b k).2=0
   ·have ih:=shift_scan d pre f (gapEnd false b (k+(oneAt d b k).1.text.size)) (acc++[(oneAt d b k).1])
    rw [scan_ok h1 h2,←ih,scan_ok (by omega) (by rw [shift_one hc hz];exact h2),shift_one hc hz]
    rw [show m+k+((oneAt d b k).1.move m).text.size=m+(k+(oneAt d b k).1.text.size) from by unfold Tok.move;simp;omega,shift_gap hc]
    simp
   ·rw [scan_err h1 h2,scan_err (by omega) (by rw [shift_one hc hz];exact h2),shift_one hc hz]
    simp only
    rw [if_pos h2]
  ·rw [scan_end h1,scan_end (by omega)]
   simp
end shift
/-- A run, and a gap, where a new line follows. -/
theorem run_app {p:Nat→Bool} {x:UInt8} (hp:p x.toNat=false) (r:List UInt8):∀ l:List UInt8,run p (l++x::r)=run p l
 | []=>by simp [run,hp]
 | c::l=>by
  have ih:=run_app hp r l
  simp only [List.cons_append,run]
  rw [ih]
theorem gap_false (c:UInt8) (r:List UInt8):gap false (c::r)=if isBlank c.toNat then 1+gap false r else if c.toNat=47∧r.head?.map UInt8.toNat=some 47 then 1+gap true r else 0:=by rw [gap]
theorem gap_app (r:List UInt8):∀ (g:Bool) (l:List UInt8),gap g (l++10::r)=if gap g l=l.length then l.length+1+gap false r else gap g l
 | true,[]=>by
  rw [List.nil_append,gap_true,if_pos (show (10:UInt8).toNat=10 from rfl)]
  simp [gap]
 | false,[]=>by rw [List.nil_append,gap_blank10];simp [gap]
 | true,c::l=>by
  have ih1:=gap_app r false l
  have ih2:=gap_app r true l
  have l1:=gap_le false l
  have l2:=gap_le true l
  rw [List.cons_append,gap_true,gap_true,ih1,ih2]
  simp only [List.length_cons]
  split
  ·by_cases h:gap false l=l.length
   ·rw [if_pos h,if_pos (by omega)];omega
   ·rw [if_neg h,if_neg (by omega)]
  ·by_cases h:gap true l=l.length
   ·rw [if_pos h,if_pos (by omega)];omega
   ·rw [if_neg h,if_neg (by omega)]
 | false,c::l=>by
  have ih1:=gap_app r false l
  have ih2:=gap_app r true l
  have l1:=gap_le false l
  have l2:=gap_le true l
  rw [List.cons_append,gap_false,gap_false]
  have hh:(c.toNat=47∧(l++10::r).head?.map UInt8.toNat=some 47)↔(c.toNat=47∧l.head?.map UInt8.toNat=some 47):=by
   cases l with
   | nil=>simp
   | cons x l=>simp
  rw [ih1,ih2,List.length_cons]
  by_cases hb:isBlank c.toNat=true
  ·simp only [hb,if_true]
   by_cases h:gap false l=l.length
   ·rw [if_pos h,if_pos (by omega)];omega
   ·rw [if_neg h,if_neg (by omega)]
  ·simp only [hb,Bool.false_eq_true,if_false,hh]
   by_cases h2:c.toNat=47∧l.head?.map UInt8.toNat=some 47
   ·simp only [h2,and_self,if_true]
    by_cases h:gap true l=l.length
    ·rw [if_pos h,if_pos (by omega)];omega
    ·rw [if_neg h,if_neg (by omega)]
   ·simp only [h2,if_false]
    rw [if_neg (by omega)]
section front
variable {c a : ByteArray} {x : UInt8} {r : List UInt8} (hc : c.data.toList = a.data.toList ++ x :: r)
include hc
theorem front_from {k:Nat} (hk:k≤a.size):from_ c k=from_ a k++x::r:=by
 unfold from_;rw [hc,List.drop_append_of_le_length (by simpa using hk)]
theorem front_size:c.size=a.size+1+r.length:=by
 have:=congrArg List.length hc
 simp at this
 omega
theorem front_byte {k:Nat} (hk:k<a.size):byte c k=byte a k:=by
 unfold byte
 rw [hc,List.getD_eq_getElem?_getD,List.getD_eq_getElem?_getD,List.getElem?_append_left (by simpa using hk)]
theorem front_byte_end:byte c a.size=x.toNat:=by
 unfold byte
 rw [hc,List.getD_eq_getElem?_getD,List.getElem?_append_right (by simp)]
 simp
theorem front_run {p:Nat→Bool} (hp:p x.toNat=false) {k:Nat} (hk:k≤a.size):runEnd p c k=runEnd p a k:=by
 unfold runEnd;rw [front_from hc hk,run_app hp]
theorem front_extract {k e:Nat} (he:e≤a.size):c.extract k e=a.extract k e:=by
 by_cases hk:k≤a.size
 ·refine extract_eq ?_
  rw [front_from hc hk,List.take_append_of_le_length (by rw [size_from];omega)]
 ·refine extract_eq ?_
  rw [show e - k=0 from by omega];simp
theorem front_num {k e:Nat} (hk:k≤a.size) (he:e≤a.size):num c k e=num a k e:=by
 rw [num_from,num_from,front_from hc hk,List.take_append_of_le_length (by rw [size_from];omega)]
theorem front_one (hi:isInner x.toNat=false) (hd:isDigit x.toNat=false) (h62:x.toNat≠62) (d:Nat) {k:Nat} (hk:k<a.size):oneAt d c k=oneAt d a k:=by
 have h1:=runEnd_le (p:=isInner) (s:=a) (k:=k+1) (by omega)
 have h2:=runEnd_le (p:=isDigit) (s:=a) (k:=k+1) (by omega)
 have h3:=runEnd_ge isDigit a (k+1)
 unfold oneAt
 dsimp only
 rw [front_byte hc hk,front_run hc hi (by omega),front_run hc hd (by omega),front_extract hc h1,front_extract hc h2,front_num hc (by omega) h2,front_extract hc (by omega)]
 have e:(byte a k=45∧k+1<c.size∧byte c (k+1)=62)↔(byte a k=45∧k+1<a.size∧byte a (k+1)=62):=by
  by_cases h:k+1<a.size
  ·rw [front_byte hc h]
   have:=front_size hc
   simp only [h,show k+1<c.size from by omega,true_and]
  ·have e2:k+1=a.size:=by omega
   rw [e2,front_byte_end hc]
   constructor
   ·rintro ⟨_,_,h4⟩;exact absurd h4 h62
   ·rintro ⟨_,h4,_⟩;exact absurd h4 (by omega)
 simp only [e]
theorem front_gap (hx:x=10) {k:Nat} (hk:k≤a.size):gapEnd false c k=if gapEnd false a k=a.size then gapEnd false c (a.size+1) else gapEnd false a k:=by
 subst hx
 have hl:=gap_le false (from_ a k)
 have hs:=size_from a k
 unfold gapEnd
 rw [front_from hc hk,gap_app]
 have e:from_ c (a.size+1)=r:=by
  unfold from_
  rw [hc,List.drop_append,List.drop_of_length_le (by simp)]
  simp
 rw [e]
 by_cases h:gap false (from_ a k)=(from_ a k).length
 ·rw [if_pos h,if_pos (by omega)];omega
 ·rw [if_neg h,if_neg (by omega)]
end front
/-- Fuel enough is as good as any other. -/
theorem scan_fuel (d:Nat) (s:ByteArray):∀ (f k:Nat) (acc:List Tok) (f':Nat),s.size<f+k→s.size<f'+k→scan d s f k acc=scan d s f' k acc
 | 0,k,acc,f',h,h'=>by rw [scan_end (by omega),scan_end (by omega)]
 | f+1,k,acc,0,h,h'=>by rw [scan_end (by omega),scan_end (by omega)]
 | f+1,k,acc,f'+1,h,h'=>by
  by_cases h1:k<s.size
  ·by_cases h2:(oneAt d s k).2=0
   ·rw [scan_ok h1 h2,scan_ok h1 h2]
    have:=oneAt_ok h1 h2
    have hg:=gapEnd_ge false s (k+(oneAt d s k).1.text.size)
    exact scan_fuel d s f _ _ f' (by omega) (by omega)
   ·rw [scan_err h1 h2,scan_err h1 h2]
  ·rw [scan_end h1,scan_end h1]
/-- A text with a new line and another one behind: its own tokens come first. -/
theorem front_scan {c a:ByteArray} {r:List UInt8} (hc:c.data.toList=a.data.toList++10::r) (d:Nat):∀ (f k:Nat) (acc:List Tok),k≤a.size→a.size<f+k →
  ∀ F F',c.size<F+k→c.size<F'+k→scan d c F (gapEnd false c k) acc=if (scan d a f (gapEnd false a k) acc).2.2≠0 then scan d a f (gapEnd false a k) acc else scan d c F' (gapEnd false c (a.size+1)) (scan d a f (gapEnd false a k) acc).1
 | f,k,acc,hk,hf,F,F',hF,hF'=>by
  have hle:=gapEnd_le (s:=a) (k:=k) false hk
  have hge:=gapEnd_ge false a k
  have hsz:=front_size hc
  rw [front_gap hc rfl hk]
  by_cases h:gapEnd false a k=a.size
  ·have e:=scan_end (d:=d) (s:=a) (k:=a.size) (f:=f) (acc:=acc) (by omega)
   rw [if_pos h,h,e,if_neg (by simp)]
   have:=gapEnd_ge false c (a.size+1)
   exact scan_fuel d c _ _ _ _ (by omega) (by omega)
  ·rw [if_neg h]
   generalize hK:gapEnd false a k=K at *
   have hK2:K<a.size:=by omega
   obtain ⟨f,rfl⟩:∃ f',f=f'+1:=⟨f - 1,by omega⟩
   obtain ⟨F,rfl⟩:∃ f',F=f'+1:=⟨F - 1,by omega⟩
   have ho:=front_one hc (by decide) (by decide) (by decide) d hK2
   by_cases h2:(oneAt d a K).2=0
   ·have hok:=oneAt_ok hK2 h2
    rw [scan_ok hK2 h2,scan_ok (show K<c.size by omega) (by rw [ho];exact h2),ho]
    exact front_scan hc d f (K+(oneAt d a K).1.text.size) _ (by omega) (by omega) F F' (by omega) (by omega)
   ·rw [scan_err hK2 h2,scan_err (show K<c.size by omega) (by rw [ho];exact h2),ho]
    simp only
    rw [if_pos h2]
theorem back_from {c a b:ByteArray} {x:UInt8} (hc:c.data.toList=a.data.toList++x::b.data.toList) (k:Nat):from_ c (a.size+1+k)=from_ b k:=by
 unfold from_
 rw [hc,List.drop_append,List.drop_of_length_le (by simp;omega),List.nil_append]
 rw [show a.size+1+k - a.data.toList.length=k+1 from by simp;omega,List.drop_succ_cons]
/-- The tokens of both. -/
theorem all_join {c a b:ByteArray} (hc:c.data.toList=a.data.toList++10::b.data.toList) (hs:c.size≤65536) :
  all c=if (all a).2.2≠0 then all a else if (all b).2.2≠0 then ([],a.size+1+(all b).2.1,(all b).2.2) else ((all a).1++(all b).1.map (Tok.move (a.size+1)),0,0):=by
 have hsz:=front_size hc
 have hbz:b.data.toList.length=b.size:=by simp
 have hA:all a=scan 3 a (a.size+1) (gapEnd false a 0) []:=by unfold all;rw [if_neg (by omega)]
 have hB:all b=scan 3 b (b.size+1) (gapEnd false b 0) []:=by unfold all;rw [if_neg (by omega)]
 have hC:all c=scan 3 c (c.size+1) (gapEnd false c 0) []:=by unfold all;rw [if_neg (by omega)]
 rw [hC,hA,hB,front_scan hc 3 (a.size+1) 0 [] (by omega) (by omega) (c.size+1) (c.size+1) (by omega) (by omega)]
 generalize scan 3 a (a.size+1) (gapEnd false a 0) []=ra
 by_cases h:ra.2.2=0
 ·rw [if_neg (by simpa using h),if_neg (by simpa using h)]
  have e:=shift_scan (back_from hc) (by omega) 3 ra.1 (b.size+1) (gapEnd false b 0) []
  have hg:=shift_gap (back_from hc) false 0
  rw [Nat.add_zero] at hg
  rw [hg,←e]
  simp only [List.map_nil,List.append_nil]
  exact scan_fuel 3 c _ _ _ _ (by omega) (by omega)
 ·rw [if_pos h,if_pos h]
end Tk
end Go.Proofs.YtogijkhenihaaaaGreatDoor
