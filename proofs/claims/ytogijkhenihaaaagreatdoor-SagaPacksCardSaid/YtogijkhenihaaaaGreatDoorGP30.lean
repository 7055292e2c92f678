/- saga.Read (printed by gen_sgrd.py). No condition but the tables' and the ones the theorems state. -/
import Derived.Test.YtogijkhenihaaaaGreatDoorGP28
import Derived.Test.YtogijkhenihaaaaGreatDoorGP29
set_option linter.unusedVariables false
set_option linter.unusedSimpArgs false
namespace Go.Proofs.YtogijkhenihaaaaGreatDoor
open Go.RowKit Go.BigFrame
namespace Sg
abbrev zrun9:Array Value:=#[.string ⟨#[]⟩,.string ⟨#[]⟩,.string ⟨#[]⟩,.int .i64 0,.int .u8 0,.int .i64 0,.bool false,.int .i64 0,.string ⟨#[]⟩]
/-- The run that was read, or none. -/
noncomputable def readV (o:Option Run):Value:=match o with
 | some r=>.tuple #[r.val,.bool true]
 | none=>.tuple #[.agg zrun9,.bool false]
theorem rd_ct {fn:Func} {p u:Tmp} {ty:TypeId} (h:fn.results=#[.cell p ty,.tmp u]) (tmps:Array Value) (P:Program) (w:World) :
  (results fn tmps).run P w=((asAddr (tmps.getD p undef)).run P w).andThen fun a w₁=>((loadVar ty a).run P w₁).andThen fun x w₂=>.ok (.tuple #[x,tmps.getD u undef]) w₂:=by
 simp only [results,h]
 simp [Sem.run_bind,Result.andThen]
theorem ret_ct {P:Program} {fn:Func} {R:Ending→World→Prop} {a:Act} {w:World} {p u:Tmp} {ty:TypeId} (h:fn.results=#[.cell p ty,.tmp u]) (g:Nat) (hp:a.tmps.getD p undef=.pointer (some ⟨g,0,none⟩))
  (t:TypeId) (cs:Array Value) (d:TypeDesc) (hg:Bk w g t cs) (hu:P.underlying ty=some d) (hd:(match d with | .struct _ | .array _ _=>true | _=>false)=true) (hi:(P.info? ty).map (·.size)=some cs.size)
  (hdf:a.defers=[]) (hR:R (.returned (.tuple #[.agg cs,a.tmps.getD u undef])) w):bodyPost P fn R .ret a w:=by
 refine bodyPost_ret (v:=.tuple #[.agg cs,a.tmps.getD u undef]) ?_ hdf hR
 rw [rd_ct h,hp]
 simp only [asAddr,Sem.run_pure,Result.andThen_ok,run_loadVar_row (P:=P) w g t ty cs (0,0) d hg hu hd hi]
/-- What a reading knows: the result's block, the reader, the run's block. -/
structure RdI (w:World) (M:Nat) (o:Option (List UInt8)) (cs:Array Value) (W:World):Prop where
 bel:Below w.heap.size w W
 res:Bk W w.heap.size 54 zrun9
 run:Bk W (w.heap.size+2) 54 cs
 st:RdS W (w.heap.size+1) M o
theorem RdI.start {w V:World} {M:Nat} {b:ByteArray} (hb:b.size≤M) (h:V=((w.alloc (.cells zrun9 54)).alloc (.cells #[.string b,.bool false] 148)).alloc (.cells zrun9 54)):RdI w M (some b.data.toList) zrun9 V:=by
 subst h
 have h1:(w.alloc (.cells zrun9 54)).heap.size=w.heap.size+1:=by simp
 have h2:((w.alloc (.cells zrun9 54)).alloc (.cells #[.string b,.bool false] 148)).heap.size=w.heap.size+2:=by simp
 refine ⟨(((Below.refl _ _).alloc (Nat.le_refl _) _).alloc (by omega) _).alloc (by omega) _,((Bk.new w 54 zrun9).alloc _).alloc _,?_,b,false,hb,?_,rfl⟩
 ·have h:=Bk.new ((w.alloc (.cells zrun9 54)).alloc (.cells #[.string b,.bool false] 148)) 54 zrun9
  rw [h2] at h
  exact h
 ·have h:=Bk.new (w.alloc (.cells zrun9 54)) 148 #[.string b,.bool false]
  rw [h1] at h
  exact h.alloc _
theorem RdI.read {w W W':World} {M:Nat} {o o':Option (List UInt8)} {cs:Array Value} (h:RdI w M o cs W) (hs:RdS W' (w.heap.size+1) M o') (hg:W.grownBy W' (some (w.heap.size+1))):RdI w M o' cs W' :=
 ⟨h.bel.grown hg h.bel.size (fun k hk=>by injection hk with hk;omega),h.res.grown hg (by intro e;injection e with e;omega),h.run.grown hg (by intro e;injection e with e;omega),hs⟩
theorem RdI.set {w W:World} {M:Nat} {o:Option (List UInt8)} {cs:Array Value} (h:RdI w M o cs W) (i:Nat) (v:Value):RdI w M o (cs.setIfInBounds i v) (W.setCell ⟨w.heap.size+2,i,none⟩ v):=by
 obtain ⟨b,bad,h1,h2,h3⟩:=h.st
 exact ⟨h.bel.setCell (p:=⟨w.heap.size+2,i,none⟩) (by show w.heap.size≤w.heap.size+2;omega) v,h.res.far (by show ¬w.heap.size=w.heap.size+2;omega) v,h.run.set_ i v,b,bad,h1,h2.far (by show ¬w.heap.size+1=w.heap.size+2;omega) v,h3⟩
/-- What is read is the run whose text it is, or none. -/
theorem readL_got {b:List UInt8} (hb:b.length≤9223372036854775807) {i s a v:ByteArray} {n p t f y:Int} {o1 o2 o3 o4 o5 o6 o7 o8 o9:Option (List UInt8)}
  (h1:Got pTxt (some b) i o1) (h2:Got pTxt o1 s o2) (h3:Got pTxt o2 a o3) (h4:Got (pNum 59) o3 n o4) (h5:Got (pNum 59) o4 p o5) (h6:Got (pNum 59) o5 t o6) (h7:Got (pNum 59) o6 f o7) (h8:Got (pNum 59) o7 y o8) (h9:Got pTxt o8 v o9) :
  (o9=none→readL b=none)∧(o9≠none→(runOf (i,s,a,n,p,t,f,y,v)).ok∧(packL (runOf (i,s,a,n,p,t,f,y,v))=b→readL b=some (runOf (i,s,a,n,p,t,f,y,v)))∧(packL (runOf (i,s,a,n,p,t,f,y,v))≠b→readL b=none)):=by
 have hp:pRun b=(o9.map fun r=>((i,s,a,n,p,t,f,y,v),r)).map (·.1):=by rw [pRun_runG,runG_of h1 h2 h3 h4 h5 h6 h7 h8 h9]
 have hr:=read_prog hb
 cases o9 with
 | none =>
  rw [hp] at hr
  exact ⟨fun _=>hr.symm,fun h=>absurd rfl h⟩
 | some r =>
  have hp:pRun b=some (i,s,a,n,p,t,f,y,v):=hp
  rw [hp] at hr
  simp only at hr
  refine ⟨fun h=>(by cases h),fun _=>⟨runOf_ok hb hp,fun h=>?_,fun h=>?_⟩⟩
  ·rw [←hr,if_pos h]
  ·rw [←hr,if_neg h]
end Sg
set_option maxRecDepth 100000 in
set_option maxHeartbeats 16000000 in
theorem sgread_any (b:ByteArray) (hb:b.size≤1000000) (w:World) (hk:Kw.L6 w) :
  Calls Tryz.prog 32 #[.string b] w fun e w'=>e=.returned (Sg.readV (Sg.readL b.data.toList))∧Below w.heap.size w w':=by
 obtain ⟨R,HR⟩:∃ R,Hid (Sg.readL b.data.toList=R):=⟨_,Lib.hid rfl⟩
 rw [HR.out]
 have HK:=Lib.hid hk
 clear hk
 go_enter Tryz.func32,Tryz.ntmps32
 go_upto_region 3 with (fail)
 refine wp_named (fun V hV=>?_)
 have HI:=Lib.hid (Sg.RdI.start (M:=b.size) (Nat.le_refl _) hV)
 clear hV
 go_wp2_with fail
 refine (sgtext_any w _ HK.out HI.out.bel (w.heap.size+1) b.size hb _ HI.out.st).mono ?_
 rintro e W1 ⟨i,o1,rfl,hT⟩
 have HZi:=Lib.hid hT.len
 have HG1:=Lib.hid hT.got
 have HJ:=Lib.hid (HI.out.read hT.st hT.gb)
 clear hT HI
 have hc:=HJ.out.run.cell 0
 have hf:=HJ.out.run.frozen 0
 simp only [List.getElem?_toArray,List.getElem?_cons_zero,List.getElem?_cons_succ] at hc
 have HI:Hid (Sg.RdI w b.size o1 #[.string i,.string ⟨#[]⟩,.string ⟨#[]⟩,.int .i64 0,.int .u8 0,.int .i64 0,.bool false,.int .i64 0,.string ⟨#[]⟩] (W1.setCell ⟨w.heap.size+2,0,none⟩ (.string i))):=Lib.hid (HJ.out.set 0 (.string i))
 clear HJ
 go_wp2_with fail
 refine (sgtext_any w _ HK.out HI.out.bel (w.heap.size+1) b.size hb _ HI.out.st).mono ?_
 rintro e W2 ⟨s,o2,rfl,hT⟩
 have HZs:=Lib.hid hT.len
 have HG2:=Lib.hid hT.got
 have HJ:=Lib.hid (HI.out.read hT.st hT.gb)
 clear hT HI hc hf
 have hc:=HJ.out.run.cell 1
 have hf:=HJ.out.run.frozen 1
 simp only [List.getElem?_toArray,List.getElem?_cons_zero,List.getElem?_cons_succ] at hc
 have HI:Hid (Sg.RdI w b.size o2 #[.string i,.string s,.string ⟨#[]⟩,.int .i64 0,.int .u8 0,.int .i64 0,.bool false,.int .i64 0,.string ⟨#[]⟩] (W2.setCell ⟨w.heap.size+2,1,none⟩ (.string s))):=Lib.hid (HJ.out.set 1 (.string s))
 clear HJ
 go_wp2_with fail
 refine (sgtext_any w _ HK.out HI.out.bel (w.heap.size+1) b.size hb _ HI.out.st).mono ?_
 rintro e W3 ⟨a,o3,rfl,hT⟩
 have HZa:=Lib.hid hT.len
 have HG3:=Lib.hid hT.got
 have HJ:=Lib.hid (HI.out.read hT.st hT.gb)
 clear hT HI hc hf
 have hc:=HJ.out.run.cell 2
 have hf:=HJ.out.run.frozen 2
 simp only [List.getElem?_toArray,List.getElem?_cons_zero,List.getElem?_cons_succ] at hc
 have HI:Hid (Sg.RdI w b.size o3 #[.string i,.string s,.string a,.int .i64 0,.int .u8 0,.int .i64 0,.bool false,.int .i64 0,.string ⟨#[]⟩] (W3.setCell ⟨w.heap.size+2,2,none⟩ (.string a))):=Lib.hid (HJ.out.set 2 (.string a))
 clear HJ
 go_wp2_with fail
 refine (sgnum_any w _ HK.out HI.out.bel (w.heap.size+1) b.size hb 59 _ HI.out.st).mono ?_
 rintro e W4 ⟨n,o4,rfl,hT⟩
 have HZn:=Lib.hid hT.rng
 have HG4:=Lib.hid hT.got
 have HJ:=Lib.hid (HI.out.read hT.st hT.gb)
 clear hT HI hc hf
 have hc:=HJ.out.run.cell 3
 have hf:=HJ.out.run.frozen 3
 simp only [List.getElem?_toArray,List.getElem?_cons_zero,List.getElem?_cons_succ] at hc
 have HI:Hid (Sg.RdI w b.size o4 #[.string i,.string s,.string a,.int .i64 n,.int .u8 0,.int .i64 0,.bool false,.int .i64 0,.string ⟨#[]⟩] (W4.setCell ⟨w.heap.size+2,3,none⟩ (.int .i64 n))):=Lib.hid (HJ.out.set 3 (.int .i64 n))
 clear HJ
 go_wp2_with fail
 refine (sgnum_any w _ HK.out HI.out.bel (w.heap.size+1) b.size hb 59 _ HI.out.st).mono ?_
 rintro e W5 ⟨p,o5,rfl,hT⟩
 have HZp:=Lib.hid hT.rng
 have HG5:=Lib.hid hT.got
 have HJ:=Lib.hid (HI.out.read hT.st hT.gb)
 clear hT HI hc hf
 have HI:=HJ
 clear HJ
 go_wp2_with fail
 refine (sgnum_any w _ HK.out HI.out.bel (w.heap.size+1) b.size hb 59 _ HI.out.st).mono ?_
 rintro e W6 ⟨t,o6,rfl,hT⟩
 have HZt:=Lib.hid hT.rng
 have HG6:=Lib.hid hT.got
 have HJ:=Lib.hid (HI.out.read hT.st hT.gb)
 clear hT HI
 have hc:=HJ.out.run.cell 5
 have hf:=HJ.out.run.frozen 5
 simp only [List.getElem?_toArray,List.getElem?_cons_zero,List.getElem?_cons_succ] at hc
 have HI:Hid (Sg.RdI w b.size o6 #[.string i,.string s,.string a,.int .i64 n,.int .u8 0,.int .i64 t,.bool false,.int .i64 0,.string ⟨#[]⟩] (W6.setCell ⟨w.heap.size+2,5,none⟩ (.int .i64 t))):=Lib.hid (HJ.out.set 5 (.int .i64 t))
 clear HJ
 go_wp2_with fail
 refine (sgnum_any w _ HK.out HI.out.bel (w.heap.size+1) b.size hb 59 _ HI.out.st).mono ?_
 rintro e W7 ⟨f,o7,rfl,hT⟩
 have HZf:=Lib.hid hT.rng
 have HG7:=Lib.hid hT.got
 have HJ:=Lib.hid (HI.out.read hT.st hT.gb)
 clear hT HI hc hf
 have HI:=HJ
 clear HJ
 go_wp2_with fail
 refine (sgnum_any w _ HK.out HI.out.bel (w.heap.size+1) b.size hb 59 _ HI.out.st).mono ?_
 rintro e W8 ⟨y,o8,rfl,hT⟩
 have HZy:=Lib.hid hT.rng
 have HG8:=Lib.hid hT.got
 have HJ:=Lib.hid (HI.out.read hT.st hT.gb)
 clear hT HI
 have hc:=HJ.out.run.cell 7
 have hf:=HJ.out.run.frozen 7
 simp only [List.getElem?_toArray,List.getElem?_cons_zero,List.getElem?_cons_succ] at hc
 have HI:Hid (Sg.RdI w b.size o8 #[.string i,.string s,.string a,.int .i64 n,.int .u8 0,.int .i64 t,.bool false,.int .i64 y,.string ⟨#[]⟩] (W8.setCell ⟨w.heap.size+2,7,none⟩ (.int .i64 y))):=Lib.hid (HJ.out.set 7 (.int .i64 y))
 clear HJ
 go_wp2_with fail
 refine (sgtext_any w _ HK.out HI.out.bel (w.heap.size+1) b.size hb _ HI.out.st).mono ?_
 rintro e W9 ⟨v,o9,rfl,hT⟩
 have HZv:=Lib.hid hT.len
 have HG9:=Lib.hid hT.got
 have HJ:=Lib.hid (HI.out.read hT.st hT.gb)
 clear hT HI hc hf
 have hc:=HJ.out.run.cell 8
 have hf:=HJ.out.run.frozen 8
 simp only [List.getElem?_toArray,List.getElem?_cons_zero,List.getElem?_cons_succ] at hc
 have HI:Hid (Sg.RdI w b.size o9 #[.string i,.string s,.string a,.int .i64 n,.int .u8 0,.int .i64 t,.bool false,.int .i64 y,.string v] (W9.setCell ⟨w.heap.size+2,8,none⟩ (.string v))):=Lib.hid (HJ.out.set 8 (.string v))
 clear HJ
 have hbl:b.data.toList.length≤9223372036854775807:=by
  have:b.data.toList.length=b.size:=by simp
  omega
 have HRL:=Lib.hid (Sg.readL_got hbl HG1.out HG2.out HG3.out HG4.out HG5.out HG6.out HG7.out HG8.out HG9.out)
 rw [HR.out] at HRL
 obtain ⟨P8,HP8⟩:∃ P8:Nat,Hid ((p % 256).toNat=P8):=⟨_,Lib.hid rfl⟩
 obtain ⟨F,HF⟩:∃ F:Bool,Hid ((f==1)=F):=⟨_,Lib.hid rfl⟩
 have hrun:Sg.runOf (i,s,a,n,p,t,f,y,v)=⟨i,s,a,n,P8,t,F,y,v⟩:=by
  unfold Sg.runOf
  simp only [HP8.out,HF.out]
 rw [hrun] at HRL
 clear HG1 HG2 HG3 HG4 HG5 HG6 HG7 HG8 HG9 HR hrun hbl
 go_upto_region 12 with (fail)
 refine wp_named (fun V9 hV9=>?_)
 have HI9:Hid (Sg.RdI w b.size o9 #[.string i,.string s,.string a,.int .i64 n,.int .u8 0,.int .i64 t,.bool false,.int .i64 y,.string v] V9):=Lib.hid (by rw [hV9];exact HI.out)
 clear hV9 HI hc hf
 have c4:=HI9.out.run.cell 4
 have f4:=HI9.out.run.frozen 4
 have c6:=HI9.out.run.cell 6
 have f6:=HI9.out.run.frozen 6
 simp only [List.getElem?_toArray,List.getElem?_cons_zero,List.getElem?_cons_succ] at c4 c6
 have hwp:IntKind.u8.wrap p=(P8:Int):=by
  rw [←HP8.out]
  unfold IntKind.wrap
  simp [IntKind.bits,IntKind.signed]
  omega
 have hF:=HF.out
 go_upto_region 13 with (fail)
 refine wp_named (fun V hV=>?_)
 have HI:Hid (Sg.RdI w b.size o9 #[.string i,.string s,.string a,.int .i64 n,.int .u8 (P8:Nat),.int .i64 t,.bool F,.int .i64 y,.string v] V):=Lib.hid (by rw [hV];exact (HI9.out.set 4 (.int .u8 (P8:Nat))).set 6 (.bool F))
 clear hV HI9 c4 f4 c6 f6 hwp hF HF HP8
 obtain ⟨b9,bad,-,hbk9,ho9⟩:=HI.out.st
 obtain ⟨⟨-,d1⟩,-⟩:=hbk9.k2
 clear hbk9
 have HO9:=Lib.hid ho9
 clear ho9
 have hL:V.heap[w.heap.size+1+1]?=some (.cells #[.string i,.string s,.string a,.int .i64 n,.int .u8 (P8:Nat),.int .i64 t,.bool F,.int .i64 y,.string v] 54 (0,0)):=Sg.bk HI.out.run
 have hQ:=HI.out.res
 have hB:=HI.out.bel
 have hQr:=Sg.bk hQ
 cases bad with
 | true =>
  have HE:Hid (R=none):=Lib.hid (HRL.out.1 HO9.out)
  clear HRL HO9
  go_wp2_with ((with_reducible refine wpList_store_row rfl 54 _ _ rfl w.heap.size #[.string ⟨#[]⟩,.string ⟨#[]⟩,.string ⟨#[]⟩,.int .i64 0,.int .u8 0,.int .i64 0,.bool false,.int .i64 0,.string ⟨#[]⟩] (by kernel_rfl) (by kernel_rfl) 54 #[.string ⟨#[]⟩,.string ⟨#[]⟩,.string ⟨#[]⟩,.int .i64 0,.int .u8 0,.int .i64 0,.bool false,.int .i64 0,.string ⟨#[]⟩] hQr (by kernel_rfl) (by kernel_rfl) (by simp [Value.oneCell']) ?_))
  refine Sg.ret_ct rfl _ rfl _ _ _ (hQ.row _) Tryz.underlying54 rfl (by kernel_rfl) rfl ⟨?_,below_row hB (Nat.le_refl _) _⟩
  rw [HE.out]
  rfl
 | false =>
  have hne:o9≠none:=by rw [HO9.out];intro h;cases h
  obtain ⟨hok,hyes,hno⟩:=HRL.out.2 hne
  have HOK:=Lib.hid hok
  have HYES:=Lib.hid hyes
  have HNO:=Lib.hid hno
  have HSZ:Hid (i.size≤1000000∧s.size≤1000000∧a.size≤1000000∧v.size≤1000000):=Lib.hid ⟨Nat.le_trans HZi.out hb,Nat.le_trans HZs.out hb,Nat.le_trans HZa.out hb,Nat.le_trans HZv.out hb⟩
  clear hok hyes hno hne HRL HO9
  obtain ⟨PS,HPS⟩:∃ PS:ByteArray,Hid ((⟨(Sg.packL ⟨i,s,a,n,P8,t,F,y,v⟩).toArray⟩:ByteArray)=PS):=⟨_,Lib.hid rfl⟩
  have HCMP:Hid ((PS.toList==b.toList)=true↔Sg.packL ⟨i,s,a,n,P8,t,F,y,v⟩=b.data.toList):=Lib.hid (by
   rw [←HPS.out,Lib.toList_data,Lib.toList_data,beq_iff_eq])
  have hpack:=sgpack_any ⟨i,s,a,n,P8,t,F,y,v⟩ HOK.out HSZ.out V (HK.out.below hB)
  rw [HPS.out] at hpack
  have HPACK:=Lib.hid hpack
  clear hpack
  cases e:(PS.toList==b.toList)
  ·have HE:Hid (R=none):=Lib.hid (HNO.out (fun h=>by rw [HCMP.out.2 h] at e;cases e))
   clear HNO HYES HCMP HOK HSZ
   go_wp2_with ((refine Sg.list_load_rowG (by kernel_rfl) _ _ rfl _ rfl _ _ _ hL Tryz.underlying54 rfl (by kernel_rfl) ?_))
   refine HPACK.out.mono ?_
   rintro e' W10 ⟨rfl,hb10⟩
   have hQ2:=hQ.below hb10 hQ.lt
   have hB2:=hB.trans (hb10.mono hB.size)
   clear hQ hQr hL hB d1 hb10
   have hQr:=Sg.bk hQ2
   go_wp2_with ((with_reducible refine wpList_store_row rfl 54 _ _ rfl w.heap.size #[.string ⟨#[]⟩,.string ⟨#[]⟩,.string ⟨#[]⟩,.int .i64 0,.int .u8 0,.int .i64 0,.bool false,.int .i64 0,.string ⟨#[]⟩] (by kernel_rfl) (by kernel_rfl) 54 #[.string ⟨#[]⟩,.string ⟨#[]⟩,.string ⟨#[]⟩,.int .i64 0,.int .u8 0,.int .i64 0,.bool false,.int .i64 0,.string ⟨#[]⟩] hQr (by kernel_rfl) (by kernel_rfl) (by simp [Value.oneCell']) ?_))
   refine Sg.ret_ct rfl _ rfl _ _ _ (hQ2.row _) Tryz.underlying54 rfl (by kernel_rfl) rfl ⟨?_,below_row hB2 (Nat.le_refl _) _⟩
   rw [HE.out]
   rfl
  ·have HE:Hid (R=some ⟨i,s,a,n,P8,t,F,y,v⟩):=Lib.hid (HYES.out (HCMP.out.1 e))
   clear HNO HYES HCMP HOK HSZ
   go_wp2_with ((refine Sg.list_load_rowG (by kernel_rfl) _ _ rfl _ rfl _ _ _ hL Tryz.underlying54 rfl (by kernel_rfl) ?_))
   refine HPACK.out.mono ?_
   rintro e' W10 ⟨rfl,hb10⟩
   have hQ2:=hQ.below hb10 hQ.lt
   have hB2:=hB.trans (hb10.mono hB.size)
   have hL2:W10.heap[w.heap.size+1+1]?=some (.cells #[.string i,.string s,.string a,.int .i64 n,.int .u8 (P8:Nat),.int .i64 t,.bool F,.int .i64 y,.string v] 54 (0,0)):=Sg.bk (HI.out.run.below hb10 HI.out.run.lt)
   clear hQ hQr hL hB d1 hb10
   have hQr:=Sg.bk hQ2
   have hL:=hL2
   clear hL2
   go_wp2_with (first | (refine wpList_load_row rfl _ _ rfl _ rfl _ _ _ _ hL Tryz.underlying54 rfl (by kernel_rfl) ?_) | (refine wpList_store_row rfl 54 _ _ rfl w.heap.size #[.string i,.string s,.string a,.int .i64 n,.int .u8 (P8:Nat),.int .i64 t,.bool F,.int .i64 y,.string v] (by kernel_rfl) (by kernel_rfl) 54 #[.string ⟨#[]⟩,.string ⟨#[]⟩,.string ⟨#[]⟩,.int .i64 0,.int .u8 0,.int .i64 0,.bool false,.int .i64 0,.string ⟨#[]⟩] hQr (by kernel_rfl) (by kernel_rfl) (by simp [Value.oneCell']) ?_))
   refine Sg.ret_ct rfl _ rfl _ _ _ (hQ2.row _) Tryz.underlying54 rfl (by kernel_rfl) rfl ⟨?_,below_row hB2 (Nat.le_refl _) _⟩
   rw [HE.out]
   rfl
end Go.Proofs.YtogijkhenihaaaaGreatDoor
