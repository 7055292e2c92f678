/- codec.Decode. No condition but the keywords' table and the ones the theorems state. -/
import Derived.Test.YtjfdohhdkdjifaaGreatDoorPE32
import Derived.Defers
import Derived.Recover
import Derived.Laws.Pointers
import Derived.ProofKit
import Derived.LaidMore
import Derived.OpenShut
import Derived.Stop.Joined
set_option linter.unusedVariables false
set_option linter.unusedSimpArgs false
namespace Go.Proofs.YtjfdohhdkdjifaaGreatDoor
section
open Go.RowKit Go.BigFrame
theorem Cd.Res.keep {w:World} {b B:Nat} {v a e v' a' e' vv:Value} {l:List Vl.Node} (h:Cd.Res w b v a e) (hr:Vl.ValR w (some B) vv l):Vl.ValR (((w.setCell ⟨b,0,none⟩ v').setCell ⟨b+1,0,none⟩ a').setCell ⟨b+2,0,none⟩ e') (some B) vv l:=by
 have k1:Kp B [71] w (w.setCell ⟨b,0,none⟩ v'):=(Only.set h.v 0 v').kp B (by decide)
 have k2:Kp B [71] (w.setCell ⟨b,0,none⟩ v') ((w.setCell ⟨b,0,none⟩ v').setCell ⟨b+1,0,none⟩ a'):=(Only.set (h.a.far (p:=⟨b,0,none⟩) (by simp) v') 0 a').kp B (by decide)
 have k3:Kp B [71] ((w.setCell ⟨b,0,none⟩ v').setCell ⟨b+1,0,none⟩ a') (((w.setCell ⟨b,0,none⟩ v').setCell ⟨b+1,0,none⟩ a').setCell ⟨b+2,0,none⟩ e'):=(Only.set ((h.e.far (p:=⟨b,0,none⟩) (by simp) v').far (p:=⟨b+1,0,none⟩) (by simp) a') 0 e').kp B (by decide)
 exact ERow.kp (show ERow w (some B) 71 4 Vl.NodE vv l from hr) (k1.trans (k2.trans k3)) (Nat.le_refl _) (by decide) (fun _ _ h=>h)
set_option maxRecDepth 100000 in
set_option maxHeartbeats 16000000 in
theorem cdecode_any (sv:Value) (x:Id.Sch) (hF:Chk.Fine x) (tv:Value) (t:List Id.Srt) (bb:ByteArray) (hbb:bb.size≤1000000) (w:World) (hk:Tk.KW w) (hv:Id.SchV w none sv x) (ht:Id.SortsR w none tv t) :
  Calls Tryz.prog 16 #[sv,tv,.string bb] w fun e w'=>∃ vv,e=.returned (.tuple #[vv,.int .i64 (Cd.decP x t bb.data.toList).2.1,.int .i64 (Cd.decP x t bb.data.toList).2.2])∧Below w.heap.size w w'∧Vl.ValR w' (some w.heap.size) vv (Cd.decP x t bb.data.toList).1:=by
 obtain ⟨R,HR⟩:∃ R,Hid (Cd.decP x t bb.data.toList=R):=⟨_,Lib.hid rfl⟩
 rw [HR.out]
 unfold Cd.decP at HR
 have HF:=Lib.hid hF
 have HKW:=Lib.hid hk
 have HV:=Lib.hid hv
 have HS:=Lib.hid ht
 obtain ⟨A1,n1,c1,A2,n2,c2,A3,n3,c3,rfl,-,-,-⟩:=hv
 have hmf:∀ (fn:Fn) (first cap:Array Value) (w:World),(Instr.makeFunc fn first cap).run Tryz.prog w=.ok (.func fn first cap) w:=fun _ _ _ _=>rfl
 clear hF hk ht
 go_enter_defers Tryz.func16,Tryz.ntmps16
 go_upto_region 1 with (fail)
 refine wp_named (fun V hV=>?_)
 have HL:Hid (Chk.Lx w V #[.string x.name,.slice A1 n1 c1,.slice A2 n2 c2,.slice A3 n3 c3]):=Lib.hid (by
  rw [hV]
  exact ⟨((((Below.refl _ _).alloc (Nat.le_refl _) _).alloc (by simp) _).alloc (by simp;omega) _).alloc (by simp;omega) _,(((Bk.new w _ _).alloc _).alloc _).alloc _⟩)
 have HRS:Hid (Cd.Res V (w.heap.size+1) (.slice none 0 0) (.int .i64 0) (.int .i64 0)):=Lib.hid (by
  rw [hV]
  have h1:=Bk.new (w.alloc (.cells #[.string x.name,.slice A1 n1 c1,.slice A2 n2 c2,.slice A3 n3 c3] 28)) 23 #[.slice none 0 0]
  have h2:=Bk.new ((w.alloc (.cells #[.string x.name,.slice A1 n1 c1,.slice A2 n2 c2,.slice A3 n3 c3] 28)).alloc (.cells #[.slice none 0 0] 23)) 3 #[.int .i64 0]
  have h3:=Bk.new (((w.alloc (.cells #[.string x.name,.slice A1 n1 c1,.slice A2 n2 c2,.slice A3 n3 c3] 28)).alloc (.cells #[.slice none 0 0] 23)).alloc (.cells #[.int .i64 0] 3)) 29 #[.int .i64 0]
  simp only [World.size_alloc] at h1 h2 h3
  exact ⟨(h1.alloc _).alloc _,h2.alloc _,h3⟩)
 clear hV
 obtain ⟨⟨q0,q1,q2,q3⟩,-⟩:=HL.out.box.k4
 go_wp2_with fail
 refine (cdright_any _ x HF.out _ t _ (HKW.out.below HL.out.bel) (Id.SchV.below HL.out.bel HV.out) (ERow.below HS.out HL.out.bel (fun _ _ h=>h))).mono ?_
 obtain ⟨T,HT⟩:∃ T,Hid (Vl.typE x t=T):=⟨_,Lib.hid rfl⟩
 rw [HT.out]
 rw [HT.out] at HR
 rintro e W1 ⟨rfl,hb⟩
 have HL1:=Lib.hid (HL.out.below hb)
 have HRS1:=Lib.hid (HRS.out.below hb)
 have hW1:w.heap.size+1+2<W1.heap.size:=HRS1.out.e.lt
 clear hb q0 q1 q2 q3 HL HRS
 by_cases hT:T=0
 case neg =>
  have HE:Hid (R=([],0,T)):=Lib.hid (by rw [←HR.out,if_pos hT])
  obtain rfl:=HE.out
  have t1:((T:Int) != 0)=true:=by rw [bne_iff_ne];omega
  have t2:¬(T:Int)=0:=by omega
  obtain ⟨u0,y0⟩:=HRS1.out.v.k1
  obtain ⟨u1,y1⟩:=HRS1.out.a.k1
  obtain ⟨u2,y2⟩:=HRS1.out.e.k1
  go_wp2_with fail
  have hres:=HRS1.out.set_ (v':=.slice none 0 0) (a':=.int .i64 0) (e':=.int .i64 (T:Nat))
  have hbel:Below w.heap.size w (((W1.setCell ⟨w.heap.size+1,0,none⟩ (.slice none 0 0)).setCell ⟨w.heap.size+1+1,0,none⟩ (.int .i64 0)).setCell ⟨w.heap.size+1+2,0,none⟩ (.int .i64 (T:Nat))):=((HL1.out.bel.setCell (p:=⟨w.heap.size+1,0,none⟩) (by simp) _).setCell (p:=⟨w.heap.size+1+1,0,none⟩) (by simp;omega) _).setCell (p:=⟨w.heap.size+1+2,0,none⟩) (by simp;omega) _
  obtain ⟨e0,-⟩:=hres.v.k1
  obtain ⟨e1,-⟩:=hres.a.k1
  obtain ⟨e2,-⟩:=hres.e.k1
  refine ⟨.tuple #[.slice none 0 0,.int .i64 0,.int .i64 (T:Nat)],?_,.slice none 0 0,rfl,hbel,ERow.nil _ _ _ _ _⟩
  rw [res_ccc rfl]
  go_simp
 subst hT
 have HTY:Hid (Chk.Right x∧Chk.right x t=true):=Lib.hid (Vl.typ_ok HT.out)
 have HRP:Hid ((match Cd.decF x bb.data.toList 12 t ⟨0,[],0⟩ with
  | .error p=>([],p.1,p.2)
  | .ok y=>if y.at_<bb.size then ([],y.at_,162) else (y.v,0,0):List Vl.Node × Nat × Nat)=R):=Lib.hid (by
   rw [←HR.out,if_neg (by simp),show bb.data.toList.length=bb.size by simp]
   cases Cd.decF x bb.data.toList 12 t ⟨0,[],0⟩ <;> rfl)
 clear HR HT
 simp only [Int.cast_ofNat_Int]
 have HV1:=Lib.hid (Id.SchV.below HL1.out.bel HV.out)
 have HS1:Hid (Id.SortsR W1 none tv t):=Lib.hid (ERow.below HS.out HL1.out.bel (fun _ _ h=>h))
 obtain ⟨⟨q0,q1,q2,q3⟩,-⟩:=HL1.out.box.k4
 go_upto_region 6 with (fail)
 refine wp_named (fun V2 hV2=>?_)
 obtain ⟨hb2,hq2,-⟩:=fresh_box hV2
 clear hV2 q0 q1 q2 q3
 have hrd:Cd.Rdr (.string x.name) (.slice A1 n1 c1) (.slice A2 n2 c2) (.slice A3 n3 c3) bb W1 V2 W1.heap.size ⟨0,[],0⟩ (.slice none 0 0):=⟨hb2,Nat.le_refl _,hq2,ERow.nil _ _ _ _ _,Nat.zero_le _,Nat.zero_le _,Nat.zero_le _⟩
 have hst:Cd.Sts W1.heap.size W1.heap.size V2 tv t:=Cd.Sts.old HS1.out hb2 (Nat.le_refl _)
 obtain ⟨ho1,ho2⟩:=Vl.right_okT HTY.out.2
 have hp:=cdpart_any x HF.out HTY.out.1 (.string x.name) (.slice A1 n1 c1) (.slice A2 n2 c2) (.slice A3 n3 c3) bb hbb W1 W1.heap.size HV1.out 12 (Nat.le_refl _) tv t ⟨0,[],0⟩ (.slice none 0 0) V2 ho1 ho2 hrd hst
 rw [show (12 - ((12:Nat):Int))=0 by omega] at hp
 have HP:=Lib.hid hp
 clear hp hst hrd hb2 hq2 ho1 ho2 HTY HV1 HS1
 go_wp2_with fail
 refine HP.out.mono ?_
 clear HP
 obtain ⟨D,HD⟩:∃ D,Hid (Cd.decF x bb.data.toList 12 t ⟨0,[],0⟩=D):=⟨_,Lib.hid rfl⟩
 rw [HD.out]
 rw [HD.out] at HRP
 cases D with
 | error pe =>
  have HE:Hid (R=([],pe.1,pe.2)):=Lib.hid HRP.out.symm
  obtain rfl:=HE.out
  rintro e w5 ⟨rfl,hb5⟩
  have HB5:=Lib.hid hb5
  have HRS5:=Lib.hid (show Cd.Res w5 (w.heap.size+1) _ _ _ from ⟨HRS1.out.v.below hb5 (by omega),HRS1.out.a.below hb5 (by omega),HRS1.out.e.below hb5 (by omega)⟩)
  clear hb5 HRS1
  unfold Cd.pan
  go_wp2_with fail
  refine leaves_cons (f:=49) (args:=#[.pointer (some ⟨w.heap.size+1,0,none⟩),.pointer (some ⟨w.heap.size+1+1,0,none⟩),.pointer (some ⟨w.heap.size+1+2,0,none⟩)]) (by simp) (by simp [go_sem]) ?_
  refine (cguard_panicking (w.heap.size+1) pe.1 pe.2 _ _ _ [] w5 HRS5.out).mono ?_
  rintro e u' w6 ⟨rfl,rfl,hb6,hr6⟩
  obtain ⟨e0,-⟩:=hr6.v.k1
  obtain ⟨e1,-⟩:=hr6.a.k1
  obtain ⟨e2,-⟩:=hr6.e.k1
  have hbel:Below w.heap.size w w6:=(HL1.out.bel.trans (HB5.out.mono HL1.out.bel.size)).trans (hb6.mono (by omega))
  refine ⟨.tuple #[.slice none 0 0,.int .i64 (pe.1:Nat),.int .i64 (pe.2:Nat)],?_,.slice none 0 0,rfl,hbel,ERow.nil _ _ _ _ _⟩
  rw [res_ccc rfl]
  go_simp
 | ok y =>
  have HRY:Hid ((if y.at_<bb.size then ([],y.at_,162) else (y.v,0,0))=R):=Lib.hid HRP.out
  rintro e w5 ⟨rfl,hp5⟩
  obtain ⟨ho5,vv5,hr5⟩:=hp5
  have HR5:=Lib.hid hr5
  have hb5:=hr5.bel
  have HRS5:=Lib.hid (show Cd.Res w5 (w.heap.size+1) _ _ _ from ⟨HRS1.out.v.below hb5 (by omega),HRS1.out.a.below hb5 (by omega),HRS1.out.e.below hb5 (by omega)⟩)
  have HB5:=Lib.hid (HL1.out.bel.trans (hb5.mono HL1.out.bel.size))
  obtain ⟨p,v,z⟩:=y
  obtain ⟨A9,n9,c9,rfl⟩:=ERow.is hr5.row
  obtain ⟨⟨c0,c1,c2,c3,c4,c5,c6,c7⟩,-⟩:=Bk.k8 hr5.box
  simp only at c5 c7 HRY
  have hlo:¬W1.heap.size=w.heap.size+1:=by omega
  have hlo1:¬W1.heap.size=w.heap.size+1+1:=by omega
  have hlo2:¬W1.heap.size=w.heap.size+1+1+1:=by omega
  clear hr5 hb5 HRS1 ho5 HRP HD
  by_cases hlt:p<bb.size
  case pos =>
   have HE:Hid (R=([],p,162)):=Lib.hid (by rw [←HRY.out,if_pos hlt])
   obtain rfl:=HE.out
   have h1:(p:Int)<(bb.size:Int):=by omega
   obtain ⟨u0,y0⟩:=HRS5.out.v.k1
   obtain ⟨u1,y1⟩:=HRS5.out.a.k1
   obtain ⟨u2,y2⟩:=HRS5.out.e.k1
   go_wp2_with fail
   go_region
   go_wp2_with fail
   refine leaves_cons (f:=49) (args:=#[.pointer (some ⟨w.heap.size+1,0,none⟩),.pointer (some ⟨w.heap.size+1+1,0,none⟩),.pointer (some ⟨w.heap.size+1+2,0,none⟩)]) (by simp) (by simp [go_sem]) ?_
   refine (cguard_idle ⟨w.heap.size+1,0,none⟩ ⟨w.heap.size+1+1,0,none⟩ ⟨w.heap.size+1+2,0,none⟩ _).mono ?_
   rintro e u' w6 ⟨rfl,rfl,rfl⟩
   have hres:=HRS5.out.set_ (v':=(.slice none 0 0)) (a':=(.int .i64 (p:Nat))) (e':=(.int .i64 162))
   have hbel:=((HB5.out.setCell (p:=⟨w.heap.size+1,0,none⟩) (by simp) (.slice none 0 0)).setCell (p:=⟨w.heap.size+1+1,0,none⟩) (by simp;omega) (.int .i64 (p:Nat))).setCell (p:=⟨w.heap.size+1+2,0,none⟩) (by simp;omega) (.int .i64 162)
   obtain ⟨e0,-⟩:=hres.v.k1
   obtain ⟨e1,-⟩:=hres.a.k1
   obtain ⟨e2,-⟩:=hres.e.k1
   refine ⟨.tuple #[(.slice none 0 0),(.int .i64 (p:Nat)),(.int .i64 162)],?_,(.slice none 0 0),rfl,hbel.drew,ERow.nil _ _ _ _ _⟩
   rw [res_ccc rfl]
   go_simp
  have HE:Hid (R=(v,0,0)):=Lib.hid (by rw [←HRY.out,if_neg hlt])
  obtain rfl:=HE.out
  have h1:¬(p:Int)<(bb.size:Int):=by omega
  obtain ⟨u0,y0⟩:=HRS5.out.v.k1
  obtain ⟨u1,y1⟩:=HRS5.out.a.k1
  obtain ⟨u2,y2⟩:=HRS5.out.e.k1
  go_wp2_with fail
  refine leaves_cons (f:=49) (args:=#[.pointer (some ⟨w.heap.size+1,0,none⟩),.pointer (some ⟨w.heap.size+1+1,0,none⟩),.pointer (some ⟨w.heap.size+1+2,0,none⟩)]) (by simp) (by simp [go_sem]) ?_
  refine (cguard_idle ⟨w.heap.size+1,0,none⟩ ⟨w.heap.size+1+1,0,none⟩ ⟨w.heap.size+1+2,0,none⟩ _).mono ?_
  rintro e u' w6 ⟨rfl,rfl,rfl⟩
  have hres:=HRS5.out.set_ (v':=(.slice A9 n9 c9)) (a':=(.int .i64 0)) (e':=(.int .i64 0))
  have hbel:=((HB5.out.setCell (p:=⟨w.heap.size+1,0,none⟩) (by simp) (.slice A9 n9 c9)).setCell (p:=⟨w.heap.size+1+1,0,none⟩) (by simp;omega) (.int .i64 0)).setCell (p:=⟨w.heap.size+1+2,0,none⟩) (by simp;omega) (.int .i64 0)
  obtain ⟨e0,-⟩:=hres.v.k1
  obtain ⟨e1,-⟩:=hres.a.k1
  obtain ⟨e2,-⟩:=hres.e.k1
  refine ⟨.tuple #[(.slice A9 n9 c9),(.int .i64 0),(.int .i64 0)],?_,(.slice A9 n9 c9),rfl,hbel,(ERow.mono (HRS5.out.keep HR5.out.row) (fun _ _ hr=>hr.weak (Id.wk_le (by omega))) (fun _ _ h=>h))⟩
  rw [res_ccc rfl]
  go_simp
end
section
open Go.RowKit
theorem run_one (c:UInt8) (v:Value) (hv:Sm.byteV c=v) (W:World) :
  Sem.run Tryz.prog (convert 99 9 (.slice (some ⟨W.heap.size,0,none⟩) 1 1)) (W.alloc (.cells #[v] 5))=.ok (.string ⟨#[c]⟩) (W.alloc (.cells #[v] 5)):=by
 subst hv
 refine run_convert_bytes_back (P:=Tryz.prog) _ 99 9 5 ⟨W.heap.size,0,none⟩ 1 [c] Tryz.underlying99 Tryz.underlying5 Tryz.underlying9 ?_
 intro j hj
 have hj:j<1:=hj
 obtain rfl:j=0:=by omega
 simp [Sm.byteV,go_sem,Addr.add]
theorem Ev.str_eq {s:ByteArray} {l:List UInt8} (h:s.data.toList=l):s=⟨l.toArray⟩:=by
 subst h
 cases s
 simp
theorem ret_str {a b:ByteArray} (h:a=b):Ending.returned (.string a)=Ending.returned (.string b):=by rw [h]
theorem Ev.byteV_rem (y:Nat):Sm.byteV (UInt8.ofNat (y % 128+128))=.int .u8 ((y:Int) % 128+128):=by
 unfold Sm.byteV
 rw [Sm.ofNat_toNat,Nat.mod_eq_of_lt (by omega)]
 rfl
set_option maxRecDepth 100000 in
set_option maxHeartbeats 1000000 in
theorem number_any (x:Nat) (hx:x<18446744073709551616) (w:World) :
  Calls Tryz.prog 74 #[.int .u64 x] w fun e w'=>e=.returned (.string ⟨(Ev.var x).toArray⟩)∧Below w.heap.size w w':=by
 have HX:Hid (x<2 * 128 ^ 9):=Lib.hid (by simpa using hx)
 go_enter Tryz.func74,Tryz.ntmps74
 go_wp2
 go_loopw [0,3] (fun z b wr=>∃ (f y:Nat) (S:ByteArray),S.size+f≤9∧z=.int .u64 y∧y<18446744073709551616∧Hid (y<2 * 128 ^ f)∧b=.string S∧Hid (S.data.toList++Ev.varF f y=Ev.var x)∧Below w.heap.size w wr) (fun z _ _=>(intOf z).toNat)
 case atStart=>exact ⟨9,x,⟨#[]⟩,by decide,rfl,hx,HX,rfl,Lib.hid rfl,Below.refl _ _⟩
 case round =>
  obtain ⟨f,y,S,hsz,rfl,hy64,HY,rfl,HP,hb⟩:=hrel
  have hz:=hb.size
  clear hx
  by_cases hlt:128≤y
  ·obtain ⟨g,rfl⟩:∃ g,f=g+1:=by
    cases f with
    | zero=>have:=HY.out;omega
    | succ g=>exact ⟨g,rfl⟩
   have HS:=Lib.hid (Ev.varF_step (f:=g) hlt)
   have hrun:=run_one _ _ (Ev.byteV_rem y)
   have hi:(128:Int)≤(y:Int):=by omega
   have hm:(y:Int) % 128<128:=by omega
   have hm0:(0:Int)≤(y:Int) % 128:=by omega
   go_wp2_with fail
   go_roundw
   case rel=>exact ⟨g,y / 128,S++⟨#[UInt8.ofNat (y % 128+128)]⟩,by rw [ByteArray.size_append];show S.size+1+g≤9;omega,by go_num,by omega,Lib.hid (by have h:=HY.out;rw [Nat.pow_succ] at h;omega),by simp,Lib.hid (by rw [←HP.out,HS.out];simp),hb.trans ((Below.refl _ _).alloc hz _)⟩
   case measure=>simp [intOf];omega
  ·have HL:=Lib.hid (Ev.varF_last (f:=f) (y:=y) (by omega))
   have hrun:=run_one _ _ (Ev.byteV_low (y:=y) (by omega))
   have hi:¬(128:Int)≤(y:Int):=by omega
   go_wp2_with fail
   go_ret
   exact ⟨ret_str (Ev.str_eq (by rw [←HP.out,HL.out];simp)),hb.trans ((Below.refl _ _).alloc hz _)⟩
end
section
open Go.RowKit Go.BigFrame
set_option maxRecDepth 100000 in
theorem rsigned_any (n:Int) (h1:-9223372036854775808≤n) (h2:n≤9223372036854775807) (w:World) :
  Calls Tryz.prog 73 #[.int .i64 n] w fun e w'=>e=.returned (.string ⟨(Ev.var (Cd.zz n)).toArray⟩)∧Below w.heap.size w w':=by
 have hz:=number_any (Cd.zz n) (Cd.zz_lt h1 h2)
 by_cases h0:0≤n
 ·have e1:((Cd.zz n:Nat):Int)=2 * n:=by
   unfold Cd.zz
   rw [if_pos h0]
   omega
  rw [e1] at hz
  have HZ:=Lib.hid hz
  clear hz e1
  go_enter Tryz.func73,Tryz.ntmps73
  go_wp2_with fail
  refine (HZ.out _).mono ?_
  rintro e w1 ⟨rfl,hb⟩
  go_wp2_with fail
  go_ret
  exact ⟨rfl,hb⟩
 ·have e1:((Cd.zz n:Nat):Int)=2 * -(n+1)+1:=by
   unfold Cd.zz
   rw [if_neg h0]
   omega
  rw [e1] at hz
  have HZ:=Lib.hid hz
  clear hz e1
  go_enter Tryz.func73,Tryz.ntmps73
  go_wp2_with fail
  refine (HZ.out _).mono ?_
  rintro e w1 ⟨rfl,hb⟩
  go_wp2_with fail
  go_ret
  exact ⟨rfl,hb⟩
theorem Cd.str_app (a b:List UInt8):(⟨a.toArray⟩:ByteArray)++⟨b.toArray⟩=⟨(a++b).toArray⟩:=by
 apply ByteArray.ext
 simp
theorem Cd.str_size (a:List UInt8):(⟨a.toArray⟩:ByteArray).size=a.length:=by
 show a.toArray.size=_
 simp
set_option maxRecDepth 100000 in
set_option maxHeartbeats 16000000 in
theorem rencode_any (sv:Value) (x:Id.Sch) (hF:Chk.Fine x) (tv:Value) (t:List Id.Srt) (vs:Value) (v:List Vl.Node) (hl:v.length≤100000) (hz:∀ n∈v,n.text.size≤100000) (hok:∀ n∈v,Cd.OkN n) (w:World) (hk:Tk.KW w) (hv:Id.SchV w none sv x) (ht:Id.SortsR w none tv t) (hvv:Vl.ValR w none vs v) :
  Calls Tryz.prog 25 #[sv,tv,vs] w fun e w'=>e=.returned (.tuple #[.string (Cd.encB (Vl.fits x t v) v),.int .i64 (Vl.fits x t v)])∧Below w.heap.size w w':=by
 obtain ⟨R,HR⟩:∃ R,Hid (Vl.fits x t v=R):=⟨_,Lib.hid rfl⟩
 rw [HR.out]
 have HF:=Lib.hid hF
 have HKW:=Lib.hid hk
 have HV:=Lib.hid hv
 have HS:=Lib.hid ht
 have HVV:=Lib.hid hvv
 have HZ:=Lib.hid hz
 have HL9:=Lib.hid hl
 have HOK:=Lib.hid hok
 obtain ⟨A,n,c,rfl⟩:=ERow.is ht
 obtain ⟨A9,n9,c9,rfl⟩:=ERow.is hvv
 have HN9:Hid (n9=v.length):=Lib.hid (by obtain ⟨_,_,e,_⟩:=ERow.slice hvv;injection e)
 obtain ⟨A1,n1,c1,A2,n2,c2,A3,n3,c3,rfl,-,-,-⟩:=hv
 clear hF hk ht hvv hz hl hok
 go_enter Tryz.func25,Tryz.ntmps25
 go_upto_region 1 with (fail)
 refine wp_named (fun V hV=>?_)
 have HL:=Lib.hid (Chk.Lx.start hV)
 clear hV
 obtain ⟨⟨q0,q1,q2,q3⟩,-⟩:=HL.out.box.k4
 go_wp2_with fail
 refine (rfits_any _ x HF.out _ t _ v HL9.out HZ.out _ (Id.SchV.below HL.out.bel HV.out) (ERow.below HS.out HL.out.bel (fun _ _ h=>h)) (Vl.ValR.below HVV.out HL.out.bel)).mono ?_
 rw [HR.out]
 rintro e U ⟨rfl,hb⟩
 have HB:=Lib.hid (HL.out.bel.trans (hb.mono HL.out.bel.size))
 clear hb HL q0 q1 q2 q3
 by_cases hR:R=0
 case neg =>
  have t1:((R:Int) != 0)=true:=by rw [bne_iff_ne];omega
  have t2:¬(R:Int)=0:=by omega
  have HX:Hid (Cd.encB R v=⟨#[]⟩):=Lib.hid (by unfold Cd.encB;rw [if_neg hR])
  go_wp2_with fail
  go_ret2
  exact ⟨by rw [HX.out];rfl,HB.out⟩
 subst hR
 have HX:Hid (Cd.encB 0 v=⟨(Cd.encGs v).toArray⟩):=Lib.hid (by unfold Cd.encB;rw [if_pos rfl])
 have HEL:Hid ((Cd.encGs v).length≤50000):=Lib.hid (by
  obtain ⟨_,_,_,_,_,h5⟩:=Vl.fits_ok HR.out
  have h6:=Cd.encGs_len v
  unfold Vl.size at h5
  unfold Vl.tsum at h6
  omega)
 try simp only [Int.cast_ofNat_Int]
 have hn9:n9≤100000:=by rw [HN9.out];exact HL9.out
 go_wp2_with fail
 go_loopw [9,10] (fun sl i wr=>∃ (k:Nat),k≤n9∧i=.int .i64 k∧sl=.string ⟨(Cd.encGs (v.take k)).toArray⟩∧Hid (Below U.heap.size U wr)) (fun _ i _=>n9 - (intOf i).toNat)
 case atStart=>exact ⟨0,by omega,rfl,by rw [List.take_zero];rfl,Lib.hid (Below.refl _ _)⟩
 case round =>
  obtain ⟨k,hk,rfl,rfl,HBU⟩:=hrel
  obtain ⟨W,rfl⟩:∃ w',w'=wr:=⟨_,rfl⟩
  have ik0:(0:Int)≤(k:Int):=by omega
  by_cases hlt:k<n9
  case neg =>
   have HT:Hid (v.take k=v):=Lib.hid (List.take_of_length_le (by rw [←HN9.out];omega))
   have ik1:¬(k:Int)<(n9:Int):=by omega
   rw [HT.out]
   go_wp2_with fail
   go_ret2
   exact ⟨by rw [HX.out];rfl,HB.out.trans (HBU.out.mono HB.out.size)⟩
  have hka:k<v.length:=by rw [←HN9.out];exact hlt
  have ik1:(k:Int)<(n9:Int):=by omega
  obtain ⟨g,off,cs,rfl,-,e1,hc⟩:=ERow.get HVV.out hka (by omega)
  have HNX:=Lib.hid (Cd.encGs_next hka)
  have hokk:=HOK.out v[k] (List.getElem_mem hka)
  have htl:(Cd.encGs (v.take (k+1))).length≤50000:=Nat.le_trans (Cd.encGs_take_len v (k+1)) HEL.out
  obtain ⟨⟨k0,k1,k2,k3⟩,Hx⟩:∃ y,Hid (v[k]=y):=⟨_,Lib.hid rfl⟩
  have hk2:k2.size≤100000:=by have h:=HZ.out v[k] (List.getElem_mem hka);rw [Hx.out] at h;exact h
  rw [Hx.out] at e1 HNX hokk
  unfold Vl.NodE Vl.Node.cells at e1
  subst e1
  obtain ⟨o1,o2,-⟩:=hokk
  simp only at o1 o2
  have a0:=hc 0 _ rfl
  have a1:=hc 1 _ rfl
  have a2:=hc 2 _ rfl
  have a3:=hc 3 _ rfl
  simp only [Nat.add_zero] at a0
  have hgl:g<w.heap.size:=World.block_lt_of_cell? w _ a0
  have hBW:=HB.out.trans (HBU.out.mono HB.out.size)
  have a0:=(hBW.cell hgl).trans a0
  have a1:=(hBW.cell hgl).trans a1
  have a2:=(hBW.cell hgl).trans a2
  have a3:=(hBW.cell hgl).trans a3
  have hgW:g<W.heap.size:=Nat.lt_of_lt_of_le hgl hBW.size
  have HBW:=Lib.hid hBW
  obtain ⟨xs,Hxs⟩:∃ xs,Hid (Cd.encGs (v.take k)=xs):=⟨_,Lib.hid rfl⟩
  have hxl:xs.length≤50000:=by rw [←Hxs.out];exact Nat.le_trans (Cd.encGs_take_len v k) HEL.out
  rw [Hxs.out] at HNX
  rw [Hxs.out]
  have hsz:(⟨xs.toArray⟩:ByteArray).size=xs.length:=Cd.str_size xs
  obtain ⟨X,HXS⟩:∃ X:ByteArray,Hid (X=⟨xs.toArray⟩):=⟨_,Lib.hid rfl⟩
  have hXl:X.size≤50000:=by rw [HXS.out,hsz];exact hxl
  rw [←HXS.out]
  have HFIN:∀ (b:List UInt8),Cd.encG ⟨k0,k1,k2,k3⟩=b→(X++⟨b.toArray⟩:ByteArray)=⟨(Cd.encGs (v.take (k+1))).toArray⟩:=fun b hb=>by rw [HNX.out,HXS.out,hb,Cd.str_app]
  have HFN:=Lib.hid HFIN
  clear hc Hx hBW htl hsz HFIN
  by_cases d2:k0=2
  ·subst d2
   have hrun:=run_one _ _ (Cd.byte_int k1)
   go_wp2_with fail
   go_roundw
   case rel=>exact ⟨k+1,by omega,by go_num,by rw [←HFN.out _ rfl];rfl,Lib.hid (HBU.out.trans (((Below.refl _ _).alloc (Nat.le_refl _) _).mono HBU.out.size))⟩
   case measure=>simp [intOf];omega
  by_cases d3:k0=3
  ·subst d3
   go_wp2_with fail
   refine (rsigned_any k1 o1 o2 _).mono ?_
   rintro e wz ⟨rfl,hbz⟩
   have hvl:(⟨(Ev.var (Cd.zz k1)).toArray⟩:ByteArray).size≤10:=by rw [Cd.str_size];exact (Ev.var_len _).2
   obtain ⟨Y,HY⟩:∃ Y:ByteArray,Hid (Y=⟨(Ev.var (Cd.zz k1)).toArray⟩):=⟨_,Lib.hid rfl⟩
   rw [←HY.out] at hvl ⊢
   go_wp2_with fail
   go_roundw
   case rel=>exact ⟨k+1,by omega,by go_num,by rw [←HFN.out _ rfl,HY.out];rfl,Lib.hid (HBU.out.trans (hbz.mono HBU.out.size))⟩
   case measure=>simp [intOf];omega
  by_cases d4:k0=4
  ·subst d4
   have hvl:(⟨(Ev.var k2.size).toArray⟩:ByteArray).size≤10:=by rw [Cd.str_size];exact (Ev.var_len _).2
   obtain ⟨Y,HY⟩:∃ Y:ByteArray,Hid (Y=⟨(Ev.var k2.size).toArray⟩):=⟨_,Lib.hid rfl⟩
   rw [←HY.out] at hvl
   have HW:IntKind.u64.wrap (k2.size:Int)=(k2.size:Int):=by rw [IntKind.wrap_u64];omega
   have hcb:∀ W',Bl W W'→Calls Tryz.prog 74 #[.int .u64 k2.size] W' fun e w'=>e=.returned (.string Y)∧Bl W w':=fun W' hW'=>by have h:=calls_bl hW' (number_any k2.size (by omega) W');rw [←HY.out] at h;exact h
   have HCB:=Lib.hid hcb
   clear hcb
   have dA:=fun (w':World) (hb:Bl W w')=>(hb.cell hgW).trans a2
   have t1:(9223372036854775807<X.size+Y.size)=False:=eq_false (by omega)
   have t2:(9223372036854775807<X.size+Y.size+k2.size)=False:=eq_false (by omega)
   go_upto_region 14 with (fail)
   clear a0 a1 a2 a3
   refine wp_region_bl W (by kernel_rfl) (by kernel_rfl) (Bl.refl _) ?_
   repeat (first | go_big_quiet_step ((intro hb;exact HCB.out _ hb)) | (refine wpQuiet_step (fun K hK=>?_);rw [if_pos (by rfl)];refine Lst.load_cell _ _ rfl _ rfl _ (by assumption) _ Tryz.underlying9 rfl ?_;go_simp;refine hK _ ?_;clear hK K) | (refine wpQuiet_step (fun K hK=>?_);go_simp;refine ⟨_,fun _ _=>rfl,hK _ ?_⟩;clear hK K))
   refine wpQuiet_nil ?_
   intro V3 hb3
   go_wp2_with fail
   go_roundw
   case rel=>exact ⟨k+1,by omega,by go_num,by rw [←HFN.out (Ev.var k2.size++k2.data.toList) rfl,HY.out];exact congrArg Value.string (by apply ByteArray.ext;apply Array.ext';simp),Lib.hid (HBU.out.trans (hb3.mono HBU.out.size))⟩
   case measure=>simp [intOf];omega
  by_cases d5:k0=5
  ·subst d5
   have hcv:(((k3 % 18446744073709551616).toNat:Nat):Int)=k3 % 18446744073709551616:=by omega
   have hp:=number_any (k3 % 18446744073709551616).toNat (by omega) W
   rw [hcv] at hp
   have HPV:=Lib.hid hp
   clear hp
   go_wp2_with fail
   refine HPV.out.mono ?_
   rintro e w1 ⟨rfl,hb1⟩
   have hvl:(⟨(Ev.var (k3 % 18446744073709551616).toNat).toArray⟩:ByteArray).size≤10:=by rw [Cd.str_size];exact (Ev.var_len _).2
   obtain ⟨Y,HY⟩:∃ Y:ByteArray,Hid (Y=⟨(Ev.var (k3 % 18446744073709551616).toNat).toArray⟩):=⟨_,Lib.hid rfl⟩
   rw [←HY.out] at hvl ⊢
   go_wp2_with fail
   go_roundw
   case rel=>exact ⟨k+1,by omega,by go_num,by rw [←HFN.out _ rfl,HY.out];rfl,Lib.hid (HBU.out.trans (hb1.mono HBU.out.size))⟩
   case measure=>simp [intOf];omega
  by_cases d6:k0=6
  ·subst d6
   have hrun:=run_one _ _ (Cd.byte_int k3)
   go_wp2_with fail
   go_roundw
   case rel=>exact ⟨k+1,by omega,by go_num,by rw [←HFN.out _ rfl];rfl,Lib.hid (HBU.out.trans (((Below.refl _ _).alloc (Nat.le_refl _) _).mono HBU.out.size))⟩
   case measure=>simp [intOf];omega
  by_cases d8:k0=8
  ·subst d8
   have hcv:(((k1 % 18446744073709551616).toNat:Nat):Int)=k1 % 18446744073709551616:=by omega
   have hp:=number_any (k1 % 18446744073709551616).toNat (by omega) W
   rw [hcv] at hp
   have HPV:=Lib.hid hp
   clear hp
   go_wp2_with fail
   refine HPV.out.mono ?_
   rintro e w1 ⟨rfl,hb1⟩
   have hvl:(⟨(Ev.var (k1 % 18446744073709551616).toNat).toArray⟩:ByteArray).size≤10:=by rw [Cd.str_size];exact (Ev.var_len _).2
   obtain ⟨Y,HY⟩:∃ Y:ByteArray,Hid (Y=⟨(Ev.var (k1 % 18446744073709551616).toNat).toArray⟩):=⟨_,Lib.hid rfl⟩
   rw [←HY.out] at hvl ⊢
   go_wp2_with fail
   go_roundw
   case rel=>exact ⟨k+1,by omega,by go_num,by rw [←HFN.out _ rfl,HY.out];rfl,Lib.hid (HBU.out.trans (hb1.mono HBU.out.size))⟩
   case measure=>simp [intOf];omega
  have e2:¬(k0:Int)=2:=by omega
  have e3:¬(k0:Int)=3:=by omega
  have e4:¬(k0:Int)=4:=by omega
  have e5:¬(k0:Int)=5:=by omega
  have e6:¬(k0:Int)=6:=by omega
  have e8:¬(k0:Int)=8:=by omega
  have HE0:Hid (X=⟨(Cd.encGs (v.take (k+1))).toArray⟩):=Lib.hid (by rw [←HFN.out [] (by unfold Cd.encG;simp only [if_neg d2,if_neg d3,if_neg d4,if_neg d5,if_neg d6,if_neg d8])];apply ByteArray.ext;simp)
  go_wp2_with fail
  go_roundw
  case rel=>exact ⟨k+1,by omega,by go_num,by rw [HE0.out],Lib.hid HBU.out⟩
  case measure=>simp [intOf];omega
end
section
open Go.RowKit Go.BigFrame Go.ChangeShapes
theorem list_of4 {cs:List Value} {a b c d:Value} (hl:cs.length=4) (h0:cs[0]?=some a) (h1:cs[1]?=some b) (h2:cs[2]?=some c) (h3:cs[3]?=some d):cs=[a,b,c,d]:=by
 match cs,hl with
 | [x,y,z,u],_=>simp at h0 h1 h2 h3;rw [h0,h1,h2,h3]
theorem i64_of_wf {n:Int} (h:(Lit.int .i64 n).wf=true):-9223372036854775808≤n∧n≤9223372036854775807:=by
 simp [Lit.wf,IntKind.min,IntKind.max,IntKind.bits,IntKind.signed] at h
 omega
section
variable {H : Type} {enc : TypeId × Value → H} {w : World} {base : Nat} {spare : Nat → Bool} {held : Bool}
theorem open_vals {fuel:Nat} {v:Value} {x:DataW H × List MemPlace} (h:DataW.trod enc Tryz.prog w base spare held fuel 23 [v]=some x):∃ l:List Vl.Node,Vl.ValR w none v l∧∀ n∈l,Cd.OkN n:=by
 obtain ⟨l,hl⟩:=open_rows (fun w cs (n:Vl.Node)=>Vl.NodE w cs n∧Cd.OkN n) Tryz.underlying23 Tryz.underlying71 (by kernel_rfl) (by kernel_rfl) (by decide) h fun cs hl hf=>by
  obtain ⟨u0,k0,y0,e0,t0⟩:=hf 0 _ rfl
  obtain ⟨u1,k1,y1,e1,t1⟩:=hf 1 _ rfl
  obtain ⟨u2,k2,y2,e2,t2⟩:=hf 2 _ rfl
  obtain ⟨u3,k3,y3,e3,t3⟩:=hf 3 _ rfl
  obtain ⟨n0,hn0,z0⟩:=DataW.trod_int Tryz.underlying5 t0
  obtain ⟨n1,hn1,z1⟩:=DataW.trod_int Tryz.underlying2 t1
  obtain ⟨n2,hn2,z2⟩:=DataW.trod_string Tryz.underlying9 t2
  obtain ⟨n3,hn3,z3⟩:=DataW.trod_int Tryz.underlying3 t3
  simp only [List.cons.injEq,and_true] at hn0 hn1 hn2 hn3
  subst hn0 hn1 hn2 hn3
  obtain ⟨k,rfl⟩:=nat_of_wf rfl z0.2
  obtain ⟨a1,a2⟩:=i64_of_wf z1.2
  have z3:=z2.2
  unfold maxLen at z3
  exact ⟨⟨k,n1,n2,n3⟩,list_of4 hl e0 e1 e2 e3,⟨a1,a2,z3⟩⟩
 refine ⟨l,ERow.mono hl (fun _ _ h=>h) (fun _ _ h=>h.1),fun n hn=>?_⟩
 obtain ⟨css,k1,k2,k3,k4⟩:=hl
 obtain ⟨i,hi,rfl⟩:=List.getElem_of_mem hn
 exact (k4 i (by omega) hi).2
end
end
section
open Go.RowKit Go.BigFrame Go.ChangeShapes Go.Joins Go.WideShapes Go.Deep
theorem Id.SortsR.below {w w':World} {B:Option Nat} {v:Value} {l:List Id.Srt} (h:Id.SortsR w B v l) (hb:Below w.heap.size w w'):Id.SortsR w' B v l:=ERow.below h hb (fun _ _ h=>h)
theorem Vl.sameF_refl (a:List Vl.Node):Vl.sameF a a=true:=Vl.sameF_iff.2 rfl
end
section
open Go.RowKit Go.BigFrame
namespace Cd
open Go.Proofs.YtjfdohhdkdjifaaGreatDoor.Id Go.Proofs.YtjfdohhdkdjifaaGreatDoor.Chk Go.Proofs.YtjfdohhdkdjifaaGreatDoor.Vl Go.Proofs.YtjfdohhdkdjifaaGreatDoor.Ev
def wkX:ByteArray:=⟨#[97,98]⟩
def wkV:List Vl.Node:=[⟨7,0,⟨#[]⟩,3⟩,⟨4,0,wkX,0⟩,⟨3,300,⟨#[]⟩,0⟩,⟨6,0,⟨#[]⟩,0⟩]
def wkB:ByteArray:=⟨#[2,97,98,216,4,0]⟩
theorem wk_of:ofF shop none (wkV.length+1) (nmd wkO) wkV=some (2,[]):=by kernel_rfl
theorem wk_fits:fits shop (nmd wkO) wkV=0:=by
 unfold fits
 rw [if_neg (by rw [shop_check];simp),if_neg (by rw [wk_right];simp),wk_of]
 decide +kernel
theorem wk_enc:encB 0 wkV=wkB:=by kernel_rfl
theorem wk_ok:∀ n∈wkV,OkN n:=by
 intro n hn
 simp only [wkV,List.mem_cons,List.not_mem_nil,or_false] at hn
 rcases hn with rfl | rfl | rfl | rfl <;> exact ⟨by decide,by decide,by decide⟩
theorem wk_typ:typE shop (nmd wkO)=0:=by
 unfold typE
 rw [if_neg (by rw [shop_check];simp),if_pos wk_right]
theorem wk_decF:decF shop wkB.data.toList 12 (nmd wkO) ⟨0,[],0⟩=.ok ⟨6,wkV,6⟩:=by kernel_rfl
theorem wk_dec:decP shop (nmd wkO) wkB.data.toList=(wkV,0,0):=by
 unfold decP
 rw [if_neg (by rw [wk_typ];simp),wk_decF]
 rfl
end Cd
set_option maxRecDepth 100000 in
set_option maxHeartbeats 16000000 in
theorem wakes16_any (w:World) (hk:Tk.KW w):Calls Tryz.prog 24 #[] w fun e w'=>e=.returned (.bool true)∧Below w.heap.size w w':=by
 have HK:=Lib.hid hk
 clear hk
 go_enter Tryz.func24,Tryz.ntmps24
 go_upto_region 2 with (fail)
 refine wp_named (fun V hV=>?_)
 obtain ⟨hb,-,-⟩:=fresh_box hV
 have HVV:Hid (Vl.ValR V none (.slice (some ⟨w.heap.size,0,none⟩) 4 4) Cd.wkV):=Lib.hid (by subst hV;exact Vl.row_lit w _ 4 Vl.NodE (Cd.wkV.map Vl.Node.cells) Cd.wkV 4 _ rfl rfl (by rw [List.length_map]) (fun cs hcs=>by obtain ⟨y,_,rfl⟩:=List.mem_map.1 hcs;rfl) (by omega) (fun i h h'=>by unfold Vl.NodE;rw [List.getElem_map]))
 have HB0:=Lib.hid hb
 clear hb hV
 go_upto_region 3 with (fail)
 refine wp_named (fun V2 hV=>?_)
 obtain ⟨hb,-,-⟩:=fresh_box hV
 have HT0:Hid (Id.SortsR V2 none (.slice (some ⟨V.heap.size,0,none⟩) 1 1) (Vl.nmd Vl.wkO)):=Lib.hid (by subst hV;exact Vl.nmd_row V Vl.wkO)
 have HV0:=Lib.hid (Vl.ValR.below HVV.out hb)
 have HB1:=Lib.hid (HB0.out.trans (hb.mono HB0.out.size))
 clear hb hV HB0 HVV
 have HV1:=HV0
 have HT1:=HT0
 go_wp2_with fail
 refine (shop_any _).mono ?_
 rintro e W2 ⟨sv2,rfl,hb,hs⟩
 have HS2:=Lib.hid (Id.SchV.weak (Id.wk_none _) hs:Id.SchV W2 none sv2 Chk.shop)
 have HB2:=Lib.hid (HB1.out.trans (hb.mono HB1.out.size))
 have HV2:=Lib.hid (Vl.ValR.below HV1.out hb)
 have HT2:Hid (Id.SortsR W2 none _ (Vl.nmd Vl.wkO)):=Lib.hid (ERow.below HT1.out hb (fun _ _ h=>h))
 obtain ⟨A21,n21,c21,A22,n22,c22,A23,n23,c23,rfl,-⟩:=hs
 clear hb
 go_wp2_with fail
 have h3:=cencode_any _ Chk.shop (Chk.shop_fine _ (by decide)) _ (Vl.nmd Vl.wkO) _ Cd.wkV (by decide) (by decide) Cd.wk_ok W2 (HK.out.below HB2.out) HS2.out HT2.out HV2.out
 rw [Cd.wk_fits,Cd.wk_enc] at h3
 refine h3.mono ?_
 rintro e W3 ⟨rfl,hb⟩
 have HB3:=Lib.hid (HB2.out.trans (hb.mono HB2.out.size))
 have HV3:=Lib.hid (Vl.ValR.below HV2.out hb)
 have HT3:Hid (Id.SortsR W3 none _ (Vl.nmd Vl.wkO)):=Lib.hid (ERow.below HT2.out hb (fun _ _ h=>h))
 clear hb h3
 simp only [Int.cast_ofNat_Int,Cd.wkB]
 go_wp2_with fail
 refine (shop_any _).mono ?_
 rintro e W4 ⟨sv4,rfl,hb,hs⟩
 have HS4:=Lib.hid (Id.SchV.weak (Id.wk_none _) hs:Id.SchV W4 none sv4 Chk.shop)
 have HB4:=Lib.hid (HB3.out.trans (hb.mono HB3.out.size))
 have HV4:=Lib.hid (Vl.ValR.below HV3.out hb)
 have HT4:Hid (Id.SortsR W4 none _ (Vl.nmd Vl.wkO)):=Lib.hid (ERow.below HT3.out hb (fun _ _ h=>h))
 obtain ⟨A41,n41,c41,A42,n42,c42,A43,n43,c43,rfl,-⟩:=hs
 clear hb
 go_wp2_with fail
 have h5:=cdecode_any _ Chk.shop (Chk.shop_fine _ (by decide)) _ (Vl.nmd Vl.wkO) Cd.wkB (by decide) W4 (HK.out.below HB4.out) HS4.out HT4.out
 rw [Cd.wk_dec] at h5
 unfold Cd.wkB at h5
 refine h5.mono ?_
 rintro e W5 ⟨vv,rfl,hb,hr⟩
 have HB5:=Lib.hid (HB4.out.trans (hb.mono HB4.out.size))
 have HV5:=Lib.hid (Vl.ValR.below HV4.out hb)
 have HR5:=Lib.hid (Vl.ValR.none hr)
 clear hb h5 hr
 simp only [Int.cast_ofNat_Int]
 go_wp2_with fail
 have h6:=rsame15_any _ _ Cd.wkV Cd.wkV W5 HV5.out HR5.out (by decide)
 rw [Vl.sameF_refl] at h6
 refine h6.mono ?_
 rintro e W6 ⟨rfl,hb⟩
 go_wp2_with fail
 go_ret
 exact ⟨rfl,HB5.out.trans (hb.mono HB5.out.size)⟩
end
section
open Go.RowKit Go.BigFrame
set_option maxRecDepth 100000 in
set_option maxHeartbeats 16000000 in
theorem codecEncodes_walk (sv:Value) (x:Id.Sch) (tv:Value) (t:List Id.Srt) (vs:Value) (v:List Vl.Node) (w0:World) (hv:Id.SchV w0 none sv x) (ht:Id.SortsR w0 none tv t) (hvv:Vl.ValR w0 none vs v) (hok:∀ n∈v,Cd.OkN n) (w:World) (he:w=w0) (hk:Tk.KW w) :
  Calls Tryz.prog 5 #[sv,tv,vs] w fun e w'=>e=.returned (.bool true)∧Below w.heap.size w w':=by
 subst he
 have HKW:=Lib.hid hk
 clear hk
 have HV:=Lib.hid hv
 obtain ⟨A1,n1,c1,A2,n2,c2,A3,n3,c3,rfl,-,-,-⟩:=hv
 have HS:=Lib.hid ht
 obtain ⟨A,n,c,rfl⟩:=ERow.is ht
 have HN:Hid (n=t.length):=Lib.hid (by obtain ⟨_,_,e,_⟩:=ERow.slice ht;injection e)
 clear ht
 have HVV:=Lib.hid hvv
 have HOK:=Lib.hid hok
 obtain ⟨A9,n9,c9,rfl⟩:=ERow.is hvv
 have HN9:Hid (n9=v.length):=Lib.hid (by obtain ⟨_,_,e,_⟩:=ERow.slice hvv;injection e)
 clear hvv hok
 have done:∀ W,Below w.heap.size w W→Calls Tryz.prog 24 #[] W fun e w'=>e=.returned (.bool true)∧Below w.heap.size w w':=fun W hW=>(wakes16_any W (HKW.out.below hW)).mono fun _ _ ⟨h1,h2⟩=>⟨h1,hW.trans (h2.mono hW.size)⟩
 have HDN:=Lib.hid done
 clear done
 go_enter Tryz.func5,Tryz.ntmps5
 go_upto_region 1 with (fail)
 refine wp_named (fun V hV=>?_)
 have HL:=Lib.hid (Chk.Lx.start hV)
 clear hV
 obtain ⟨⟨q0,q1,q2,q3⟩,-⟩:=HL.out.box.k4
 go_wp2_with fail
 refine (vgreat_any _ x _ t _ v _ (Id.SchV.below HL.out.bel HV.out) (Id.SortsR.below HS.out HL.out.bel) (Vl.ValR.below HVV.out HL.out.bel)).mono ?_
 rintro e W1 ⟨b,rfl,hb,hg⟩
 have HG:=Lib.hid hg
 clear hg
 have HL2:=Lib.hid (HL.out.below hb)
 clear HL q0 q1 q2 q3
 have HL:=HL2
 clear HL2 hb
 obtain ⟨⟨q0,q1,q2,q3⟩,-⟩:=HL.out.box.k4
 cases b
 case true =>
  go_wp2_with fail
  refine (HDN.out _ HL.out.bel).mono ?_
  rintro e W9 ⟨rfl,hb9⟩
  go_wp2_with fail
  go_ret
  exact ⟨rfl,hb9⟩
 have HF:=Lib.hid (HG.out rfl)
 clear HG
 have HFi:=Lib.hid HF.out.sch.fine
 have HL9:Hid (v.length≤100000):=Lib.hid (Nat.le_trans HF.out.vl (by decide))
 have HZ9:Hid (∀ n∈v,n.text.size≤100000):=Lib.hid (fun n hn=>by obtain ⟨i,hi,rfl⟩:=List.getElem_of_mem hn;exact Nat.le_trans (HF.out.tx i hi) (by decide))
 obtain ⟨R,HR⟩:∃ R,Hid (Vl.fits x t v=R):=⟨_,Lib.hid rfl⟩
 obtain ⟨B,HBB⟩:∃ B,Hid (Cd.encB R v=B):=⟨_,Lib.hid rfl⟩
 go_wp2_with fail
 refine (cencode_any _ x HFi.out _ t _ v HL9.out HZ9.out HOK.out _ (HKW.out.below HL.out.bel) (Id.SchV.below HL.out.bel HV.out) (Id.SortsR.below HS.out HL.out.bel) (Vl.ValR.below HVV.out HL.out.bel)).mono ?_
 rw [HR.out]
 rintro e W2 ⟨rfl,hb⟩
 have HL2:=Lib.hid (HL.out.below hb)
 clear HL q0 q1 q2 q3
 have HL:=HL2
 clear HL2 hb
 obtain ⟨⟨q0,q1,q2,q3⟩,-⟩:=HL.out.box.k4
 rw [HBB.out]
 go_wp2_with fail
 refine (rencode_any _ x HFi.out _ t _ v HL9.out HZ9.out HOK.out _ (HKW.out.below HL.out.bel) (Id.SchV.below HL.out.bel HV.out) (Id.SortsR.below HS.out HL.out.bel) (Vl.ValR.below HVV.out HL.out.bel)).mono ?_
 rw [HR.out,HBB.out]
 rintro e W3 ⟨rfl,hb⟩
 have HL2:=Lib.hid (HL.out.below hb)
 clear HL q0 q1 q2 q3
 have HL:=HL2
 clear HL2 hb
 obtain ⟨⟨q0,q1,q2,q3⟩,-⟩:=HL.out.box.k4
 go_wp2_with fail
 refine (HDN.out _ HL.out.bel).mono ?_
 rintro e W9 ⟨rfl,hb9⟩
 go_wp2_with fail
 go_ret
 exact ⟨rfl,hb9⟩
end
section
open Go.ChangeShapes Go.WideShapes Go.ChangeAt Go.RowKit
namespace Kw
theorem gK : Tryz.prog.globalNamed "redress/token.keywords" = some 0 := by kernel_rfl
theorem tK:(Tryz.prog.globals[0]?).map (·.type)=some 234:=by kernel_rfl
theorem c9:Tryz.prog.cellsOf 9=1:=by kernel_rfl
/-- The list of what is laid. -/
abbrev laidL : List (String × DataW Unit) := [("math/bits.deBruijn32tab", Rows.laid_math_bits_deBruijn32tab), ("math/bits.deBruijn64tab", Rows.laid_math_bits_deBruijn64tab), ("internal/strconv.uint64pow10", Rows.laid_internal_strconv_uint64pow10), ("redress/token.keywords", Rows.laid_redress_token_keywords)]
/-- The door's own heap meets the condition. -/
theorem door_met (os:Os) (args:Array Value):laidMetH Tryz.prog laidL ((World.doorLaid Tryz.prog 400 os).forCall (fun _ _=>0) ⟨#[],args,[]⟩).memory :=
 laidMetH_of_parts3 (fuel:=8) (laidMet_of_run' 8 (by kernel_rfl) (by kernel_rfl)) (by kernel_rfl) (by kernel_rfl)
theorem data_eq:(Rows.laid_redress_token_keywords:DataW Unit)=.agg (Tk.words.map fun x=>.lit (.string x.data.toList)):=by kernel_rfl
theorem of_laid {W:World} (h:laidMetH Tryz.prog laidL W):Tk.KW W:=by
 rw [MakeChecks.laidMetH_plain _ _ _ (by kernel_rfl)] at h
 obtain ⟨ps,hps,_,_⟩:=h
 obtain ⟨_,_,_,_,_,_,_,_,_,_,hps,_⟩:=hps
 obtain ⟨_,_,_,_,_,_,_,_,_,_,hps,_⟩:=hps
 obtain ⟨_,_,_,_,_,_,_,_,_,_,hps,_⟩:=hps
 obtain ⟨g0,t0,cs0,f0,p0,q0,hg0,ht0,hv0,hd0,_⟩:=hps
 obtain rfl:=Option.some.inj (gK.symm.trans hg0)
 obtain rfl:=Option.some.inj (tK.symm.trans ht0)
 obtain ⟨xs,m1,rfl,hx1,hlen,hn,hel⟩:=DataW.trod_array Tryz.underlying234 hd0
 simp only [Prod.mk.injEq] at hx1
 have hx2:(Tk.words.map fun x=>(DataW.lit (.string x.data.toList):DataW Unit))=xs.map (·.1):=by
  have:=hx1.1
  rw [data_eq] at this
  injection this
 have key:∀ j,j<Tk.words.length→W.cell? ⟨0,0+j,none⟩=some (.string (Tk.words.getD j ByteArray.empty)):=by
  intro j hj
  have hj17:j<17:=hj
  have h1:=hel j hj17
  rw [c9] at h1
  have hjx:j<xs.length:=by omega
  rw [List.getElem?_eq_getElem hjx] at h1
  obtain ⟨s,e1,e2,_⟩:=DataW.trod_string Tryz.underlying9 h1
  have h3:(xs.map (·.1))[j]?=some (DataW.lit (.string Tk.words[j].data.toList)):=by
   rw [←hx2,List.getElem?_map,List.getElem?_eq_getElem hj]
   rfl
  rw [List.getElem?_map,List.getElem?_eq_getElem hjx,e2] at h3
  simp only [Option.map_some,Option.some.injEq,DataW.lit.injEq,Lit.string.injEq] at h3
  have hs:s=Tk.words[j]:=by
   cases s
   cases hw:Tk.words[j]
   rw [hw] at h3
   simp only at h3
   rw [Array.toList_inj.1 h3]
  have hc:=World.var?_cell hg0 hv0 j
  rw [Nat.zero_add,hc]
  have e4:cs0.toList[j]?=some (.string s):=by
   have:((cs0.toList.drop (j * 1)).take 1)[0]?=some (.string s):=by rw [e1];rfl
   rw [List.getElem?_take_of_lt (by omega),List.getElem?_drop] at this
   simpa using this
  have e5:Tk.words.getD j ByteArray.empty=s:=by rw [hs,List.getD_eq_getElem?_getD,List.getElem?_eq_getElem hj];rfl
  rw [e5]
  simpa using e4
 refine ⟨?_,key⟩
 exact World.block_lt_of_cell? W _ (key 0 (by decide))
end Kw
end
end Go.Proofs.YtjfdohhdkdjifaaGreatDoor
