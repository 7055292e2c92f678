/- saga, plain: what the calls are, and the shape of a run: the steps done and undone. No condition. -/
import Derived.Test.YtogijkhenihaaaaGreatDoorGE18
import Derived.Test.YtogijkhenihaaaaGreatDoorGE01
import Derived.Laws.ResultCell
set_option linter.unusedVariables false
set_option linter.unusedSimpArgs false
namespace Go.Proofs.YtogijkhenihaaaaGreatDoor
namespace Sg
open Go.Proofs.YtogijkhenihaaaaGreatDoor.Id Go.Proofs.YtogijkhenihaaaaGreatDoor.Chk Go.Proofs.YtogijkhenihaaaaGreatDoor.Ev Go.Proofs.YtogijkhenihaaaaGreatDoor.Sd
section
variable {A : Sch → ByteArray → ByteArray → Nat} {x : Sch}
theorem let_zero {r:Run} (h:Rt A x r) {fr:Int} (h0:0≤fr) (h4:fr<4):letE x r.saga r.id r.at_ fr=0:=by
 have hf:=steps_found h.st
 have hl:=steps_len h.st
 have a0:=h.a0
 have an:=h.an
 unfold letE
 rw [if_neg (by simp [hf]),if_neg (by simp [h.idok];omega),if_neg (by rw [←hl];omega)]
theorem not_over {r:Run} (h:Rt A x r) (ho:over r=false):r.phase=1∨r.phase=2:=by
 obtain ⟨-,-,-,-,q1,q5⟩:=h.ph
 unfold over at ho
 simp only [Bool.and_eq_false_iff,decide_eq_false_iff_not] at ho
 omega
/-- The call of a run that is right and not over. -/
theorem next_call {r:Run} (h:Rt A x r) (hp:r.phase=1∨r.phase=2) {fr:Int} (h0:0≤fr) (h4:fr<4):(nextL x r fr).kind=1∧(nextL x r fr).key=waits r∧(call x r.saga r.id r.at_ (decide (r.phase=2)) fr r.arg).2=0:=by
 have hE:=let_zero h h0 h4
 have hE0:=let_zero h (Int.le_refl 0) (by decide)
 unfold nextL waits
 rcases hp with e | e
 ·have d:decide (r.phase=2)=false:=by rw [e];rfl
  rw [d]
  unfold call
  rw [if_neg (by simp [hE]),if_pos rfl]
  exact ⟨rfl,rfl,rfl⟩
 ·have d:decide (r.phase=2)=true:=by rw [e];rfl
  rw [d]
  have hu:=(h.ph.2.2.2.1 (.inl e)).1
  unfold undE call at hu
  rw [if_neg (by simp [hE0]),if_neg (by simp)] at hu
  have hn:¬(undoOf x (base x r.saga r.id r.at_ 0)).toList.isEmpty=true:=by
   intro hh
   rw [if_pos hh] at hu
   cases hu
  have hb:undoOf x (base x r.saga r.id r.at_ fr)=undoOf x (base x r.saga r.id r.at_ 0):=rfl
  unfold call
  rw [if_neg (by simp [hE]),if_neg (by simp),hb,if_neg hn]
  exact ⟨rfl,rfl,rfl⟩
theorem cancel_key {r:Run} (h:Rt A x r) {fr:Int} (h0:0≤fr) (h4:fr<4):(cancel x r.saga r.id r.at_ fr).2=0∧(cancel x r.saga r.id r.at_ fr).1.kind=3∧(cancel x r.saga r.id r.at_ fr).1.key=keyB r.id r.at_ false:=by
 have hE:=let_zero h h0 h4
 unfold cancel
 rw [if_neg (by simp [hE])]
 exact ⟨rfl,rfl,rfl⟩
/-- The shape: D steps done, U undone. -/
def Shp (n:Int) (r:Run) (D U:Int):Prop :=
 0≤U∧(r.phase=1→r.at_=D∧U=0)∧(r.phase=2∨r.phase=5→r.at_=D - 1 - U∧D<n)∧(r.phase=3→D=n∧U=0)∧(r.phase=4→U=D∧D<n)
theorem back_shape {n:Int} {r:Run} {D:Int} (h1:r.at_=D) (h0:0≤r.at_) (hn:r.at_<n) {fr why:Int}:Shp n (back x r fr why).1 D 0:=by
 unfold back
 split
 ·rename_i h
  exact ⟨Int.le_refl 0,fun e=>(by cases e),fun e=>(by rcases e with e | e <;> cases e),fun e=>(by cases e),fun _=>⟨by omega,by omega⟩⟩
 ·exact ⟨Int.le_refl 0,fun e=>(by cases e),fun _=>⟨by show r.at_ - 1=D - 1 - 0;omega,by omega⟩,fun e=>(by cases e),fun e=>(by cases e)⟩
theorem undo_shape {n:Int} {r:Run} {D U:Int} (h1:r.at_=D - 1 - U) (hD:D<n) (hU:0≤U) {fr why:Int}:Shp n (back x r fr why).1 D (U+1):=by
 unfold back
 split
 ·rename_i h
  exact ⟨by omega,fun e=>(by cases e),fun e=>(by rcases e with e | e <;> cases e),fun e=>(by cases e),fun _=>⟨by omega,by omega⟩⟩
 ·exact ⟨by omega,fun e=>(by cases e),fun _=>⟨by show r.at_ - 1=D - 1 - (U+1);omega,by omega⟩,fun e=>(by cases e),fun e=>(by cases e)⟩
/-- An answer that is taken: the shape behind it. -/
theorem took_shape {n:Int} {r:Run} {D U:Int} (h:Rt A x r) (ho:over r=false) (hn:n=((steps x r.saga).1:Int)) (hs:Shp n r D U) {fr most:Int} {l:Letter} :
  (l.code=0→(r.phase=1∧r.at_=D∧Shp n (took x r fr most l).1 (D+1) U)∨(r.phase=2∧r.at_=D - 1 - U∧Shp n (took x r fr most l).1 D (U+1))) ∧
  (l.code≠0→Shp n (took x r fr most l).1 D U):=by
 have h12:=not_over h ho
 have a0:=h.a0
 have an:=h.an
 obtain ⟨hU,s1,s2,s3,s4⟩:=hs
 rcases h12 with e | e
 ·obtain ⟨d1,d2⟩:=s1 e
  have e2:¬r.phase=2:=by omega
  constructor
  ·intro hc
   refine .inl ⟨e,d1,?_⟩
   unfold took
   rw [if_neg e2,if_neg (by simp [hc])]
   split
   ·exact ⟨hU,fun e=>(by cases e),fun e=>(by rcases e with e | e <;> cases e),fun _=>⟨by omega,d2⟩,fun e=>(by cases e)⟩
   ·refine ⟨hU,fun _=>⟨by show r.at_+1=D+1;omega,d2⟩,fun h5=>?_,fun h3=>?_,fun h4=>?_⟩
    ·have:r.phase=2∨r.phase=5:=h5
     omega
    ·have:r.phase=3:=h3
     omega
    ·have:r.phase=4:=h4
     omega
  ·intro hc
   unfold took
   rw [if_neg e2,if_pos hc,d2]
   exact back_shape d1 a0 (by omega)
 ·obtain ⟨d1,d2⟩:=s2 (.inl e)
  constructor
  ·intro hc
   refine .inr ⟨e,d1,?_⟩
   unfold took
   rw [if_pos e,if_pos hc]
   exact undo_shape d1 d2 hU
  ·intro hc
   unfold took
   rw [if_pos e,if_neg hc]
   split
   ·exact ⟨hU,fun e=>(by cases e),fun _=>⟨d1,d2⟩,fun e=>(by cases e),fun e=>(by cases e)⟩
   ·refine ⟨hU,fun h1=>?_,fun _=>⟨d1,d2⟩,fun h3=>?_,fun h4=>?_⟩
    ·have:r.phase=1:=h1
     omega
    ·have:r.phase=3:=h3
     omega
    ·have:r.phase=4:=h4
     omega
/-- What stays of a run. -/
theorem back_same {r:Run} {fr why:Int}:(back x r fr why).1.id=r.id∧(back x r fr why).1.saga=r.saga∧(back x r fr why).1.arg=r.arg:=by
 unfold back
 split <;> exact ⟨rfl,rfl,rfl⟩
theorem took_same {r:Run} {fr most:Int} {l:Letter}:(took x r fr most l).1.id=r.id∧(took x r fr most l).1.saga=r.saga∧(took x r fr most l).1.arg=r.arg:=by
 unfold took
 split
 ·split
  ·exact back_same
  ·split <;> exact ⟨rfl,rfl,rfl⟩
 ·split
  ·exact back_same
  ·split <;> exact ⟨rfl,rfl,rfl⟩
/-- What an answer that is taken calls for. -/
def CallOk (r:Run) (l:Letter) (calls tk:Bool):Prop:=tk=true∧(calls=true→l.kind=1∧l.key=waits r)∧(calls=false→l.kind=0)
theorem back_call {r:Run} (h:Rt A x r) (h5:r.phase=1∨r.phase=2) (h3:r.value.toList.isEmpty=true) {fr why:Int} (h0:0≤fr) (h4:fr<4) (hw:1≤why) (hw2:why≤999) :
  CallOk (back x r fr why).1 (back x r fr why).2.1 (back x r fr why).2.2.1 (back x r fr why).2.2.2:=by
 have hR:=back_right (fr:=fr) h h5 h3 hw hw2
 unfold back at hR ⊢
 split
 ·exact ⟨rfl,fun e=>(by cases e),fun _=>rfl⟩
 ·rename_i hz
  rw [if_neg hz] at hR
  obtain ⟨c1,c2,_⟩:=next_call hR (.inr rfl) h0 h4
  exact ⟨rfl,fun _=>⟨c1,c2⟩,fun e=>(by cases e)⟩
theorem took_call {r:Run} (h:Rt A x r) (ho:over r=false) {fr most:Int} {l:Letter} (h0:0≤fr) (h4:fr<4) :
  CallOk (took x r fr most l).1 (took x r fr most l).2.1 (took x r fr most l).2.2.1 (took x r fr most l).2.2.2:=by
 have hR:=took_right (fr:=fr) (most:=most) (l:=l) h ho
 have h12:=not_over h ho
 have hv:r.phase≠3:=by omega
 have h3:r.value.toList.isEmpty=true:=h.vb.resolve_left hv
 have w0:=h.w0
 have w9:=h.w999
 unfold took at hR ⊢
 split
 ·rename_i e2
  have hy:=(h.ph.2.2.2.1 (.inl e2)).2
  rw [if_pos e2] at hR
  split
  ·exact back_call h h12 h3 h0 h4 (by omega) w9
  ·rename_i hc
   rw [if_neg hc] at hR
   split
   ·exact ⟨rfl,fun e=>(by cases e),fun _=>rfl⟩
   ·rename_i hs
    rw [if_neg hs] at hR
    obtain ⟨c1,c2,_⟩:=next_call hR (.inr e2) h0 h4
    exact ⟨rfl,fun _=>⟨c1,c2⟩,fun e=>(by cases e)⟩
 ·rename_i e2
  rw [if_neg e2] at hR
  have e1:r.phase=1:=by omega
  split
  ·refine back_call h h12 h3 h0 h4 ?_ ?_
   ·split <;> omega
   ·split <;> omega
  ·rename_i hc
   rw [if_neg hc] at hR
   split
   ·exact ⟨rfl,fun e=>(by cases e),fun _=>rfl⟩
   ·rename_i hs
    rw [if_neg hs] at hR
    obtain ⟨c1,c2,_⟩:=next_call hR (.inl e1) h0 h4
    exact ⟨rfl,fun _=>⟨c1,c2⟩,fun e=>(by cases e)⟩
/-- The stop of a run that is right. -/
theorem stop_right {r:Run} (h:Rt A x r) (e:r.phase=1):Rt A x { r with stop:=true }:=⟨h.st,h.idok,h.arg,h.a0,h.an,h.t0,h.t29,h.w0,h.w999,h.val,h.ph,h.tb,.inl e,h.vb⟩
theorem unstop_right {r:Run} (h:Rt A x r):Rt A x { r with stop:=false }:=⟨h.st,h.idok,h.arg,h.a0,h.an,h.t0,h.t29,h.w0,h.w999,h.val,h.ph,h.tb,.inr rfl,h.vb⟩
end
end Sg
end Go.Proofs.YtogijkhenihaaaaGreatDoor
set_option linter.unusedVariables false
set_option linter.unusedSimpArgs false
namespace Go.Proofs.YtogijkhenihaaaaGreatDoor
namespace Sg
open Go.Proofs.YtogijkhenihaaaaGreatDoor.Id Go.Proofs.YtogijkhenihaaaaGreatDoor.Chk Go.Proofs.YtogijkhenihaaaaGreatDoor.Ev Go.Proofs.YtogijkhenihaaaaGreatDoor.Sd
noncomputable def begin_ (A:Sch→ByteArray→ByteArray→Nat) (x:Sch) (g id:ByteArray) (fr:Int) (b:ByteArray):Run × Letter × Nat :=
 if (call x g id 0 false fr b).2≠0 then (Run.zero,Letter.zero,(call x g id 0 false fr b).2)
 else if A x g b≠0 then (Run.zero,Letter.zero,A x g b)
 else (⟨id,g,b,0,1,0,false,0,⟨#[]⟩⟩,(call x g id 0 false fr b).1,0)
section
variable {A : Sch → ByteArray → ByteArray → Nat} {x : Sch}
theorem begin_ok {g id b:ByteArray} {fr:Int} (h:(begin_ A x g id fr b).2.2=0):(begin_ A x g id fr b).1=⟨id,g,b,0,1,0,false,0,⟨#[]⟩⟩∧Rt A x ⟨id,g,b,0,1,0,false,0,⟨#[]⟩⟩:=by
 unfold begin_ at h ⊢
 split at h
 ·rename_i h1;exact absurd h h1
 ·rename_i h1
  split at h
  ·rename_i h2;exact absurd h h2
  ·rename_i h2
   rw [if_neg h1,if_neg h2]
   refine ⟨rfl,?_⟩
   have hE:letE x g id 0 fr=0:=by
    by_cases hz:letE x g id 0 fr=0
    ·exact hz
    ·unfold call at h1
     rw [if_pos hz] at h1
     exact absurd hz h1
   obtain ⟨f1,f2,f3,f4,f5,f6⟩:=letE_ok hE
   have hs:steps x g=((sag x g).steps.length,0):=by
    unfold steps
    rw [if_neg (by simp [f1])]
   have hA:A x g b=0:=by omega
   refine ⟨by rw [hs],f2,hA,Int.le_refl 0,by rw [hs];exact f6,Int.le_refl 0,(by show (0:Int)≤29;decide),Int.le_refl 0,(by show (0:Int)≤999;decide),(by show (0:Nat)≤4096;decide),⟨fun _=>rfl,fun e=>(by cases e),fun e=>(by cases e),fun e=>(by rcases e with e | e <;> cases e),Nat.le_refl 1,(by show 1≤5;decide)⟩,.inr (.inr rfl),.inl rfl,.inr nil_empty⟩
theorem on_true {r:Run} (h:Rt A x r) (ho:over r=false) {fr:Int} (h0:0≤fr) (h4:fr<4):on A x r fr=true:=by
 unfold on
 simp only [ho,Bool.not_false,Bool.and_true,Bool.and_eq_true,decide_eq_true_eq]
 exact ⟨⟨h0,h4⟩,h⟩
theorem reply_took {r:Run} (h:Rt A x r) (ho:over r=false) {fr most:Int} (h0:0≤fr) (h4:fr<4) {l:Letter} (hk:l.kind=2) (hy:l.key.toList=(waits r).toList):reply A x r fr most l=took x r fr most l:=by
 unfold reply
 rw [if_pos ⟨on_true h ho h0 h4,hk,hy⟩]
/-- What holds between two rounds of SagaEnds: i answers came, k were taken. -/
structure EndI (A:Sch→ByteArray→ByteArray→Nat) (x:Sch) (g:ByteArray) (n m:Int) (r:Run) (i k:Int):Prop where
 rt:Rt A x r
 sg:r.saga=g
 tr:r.phase=2→r.tries≤m
 bd:k+left n m r≤n+n * (m+1)
 en:over r=true∨k=i
end
end Sg
end Go.Proofs.YtogijkhenihaaaaGreatDoor
set_option linter.unusedVariables false
set_option linter.unusedSimpArgs false
namespace Go.Proofs.YtogijkhenihaaaaGreatDoor
open Go.RowKit Go.BigFrame
namespace Sd
open Go.Proofs.YtogijkhenihaaaaGreatDoor.Id Go.Proofs.YtogijkhenihaaaaGreatDoor.Chk Go.Proofs.YtogijkhenihaaaaGreatDoor.Ev
noncomputable def gOf (x:Sch) (g:ByteArray):Sag:=if foundE x g=0 then sag x g else sagZ
noncomputable def pOf (x:Sch) (g:ByteArray):Nat:=if foundE x g=0 then (Prn.print x).1 else 0
theorem sagZ_v (w:World) (b:Nat):SagV w (some b) (.agg #[.string ⟨#[]⟩,.string ⟨#[]⟩,.slice none 0 0]) sagZ:=⟨_,rfl,ERow.nil _ _ _ _ _⟩
theorem sagV_old {w:World} {b B:Nat} {v:Value} {g:Sag} (hb:B≤b) (h:SagV w (some b) v g):SagV w (some B) v g:=by
 obtain ⟨u,e,hs⟩:=h
 exact ⟨u,e,ERow.mono hs (fun _ _ hr=>hr.weak (fun b' e'=>by injection e' with e';exact ⟨b,rfl,by omega⟩)) (fun _ _ h=>h)⟩
/-- Three cells of a block written. -/
theorem set3 {w:World} {b:Nat} {T:TypeId} {x0 x1 x2 y0 y1 y2:Value} (h:Bk w b T #[x0,x1,x2]):Bk (((w.setCell ⟨b,0,none⟩ y0).setCell ⟨b,1,none⟩ y1).setCell ⟨b,2,none⟩ y2) b T #[y0,y1,y2]:=((h.set_ 0 y0).set_ 1 y1).set_ 2 y2
theorem bel3 {w:World} {B b:Nat} {V:World} {y0 y1 y2:Value} (h:Below B V w) (hb:B≤b):Below B V (((w.setCell ⟨b,0,none⟩ y0).setCell ⟨b,1,none⟩ y1).setCell ⟨b,2,none⟩ y2):=((h.setCell (p:=⟨b,0,none⟩) hb _).setCell (p:=⟨b,1,none⟩) hb _).setCell (p:=⟨b,2,none⟩) hb _
theorem sagV_set3 {w:World} {b B:Nat} {T:TypeId} {x0 x1 x2 y0 y1 y2 v:Value} {g:Sag} (hT:T≠184) (h:Bk w b T #[x0,x1,x2]) (hs:SagV w (some B) v g):SagV (((w.setCell ⟨b,0,none⟩ y0).setCell ⟨b,1,none⟩ y1).setCell ⟨b,2,none⟩ y2) (some B) v g:=by
 obtain ⟨u,e,hr⟩:=hs
 have hn:T ∉ [184]:=by simpa using hT
 have k1:Kp B [184] w (w.setCell ⟨b,0,none⟩ y0):=(Only.set h 0 y0).kp B hn
 have k2:Kp B [184] (w.setCell ⟨b,0,none⟩ y0) ((w.setCell ⟨b,0,none⟩ y0).setCell ⟨b,1,none⟩ y1):=(Only.set (h.set_ 0 y0) 1 y1).kp B hn
 have k3:Kp B [184] ((w.setCell ⟨b,0,none⟩ y0).setCell ⟨b,1,none⟩ y1) (((w.setCell ⟨b,0,none⟩ y0).setCell ⟨b,1,none⟩ y1).setCell ⟨b,2,none⟩ y2):=(Only.set ((h.set_ 0 y0).set_ 1 y1) 2 y2).kp B hn
 exact ⟨u,e,ERow.kp hr (k1.trans (k2.trans k3)) (Nat.le_refl _) (by simp) (fun _ _ h=>h)⟩
end Sd
set_option maxRecDepth 100000 in
set_option maxHeartbeats 16000000 in
theorem sfound_any (sv:Value) (x:Id.Sch) (hF:Chk.Fine x) (g:ByteArray) (w:World) (hk:Tk.KW w) (hv:Id.SchV w none sv x) :
  Calls Tryz.prog 75 #[sv,.string g] w fun e w'=>∃ v,e=.returned (.tuple #[v,.int .u64 (Sd.pOf x g:Nat),.int .i64 (Sd.foundE x g:Nat)])∧Below w.heap.size w w'∧Chk.SagV w' (some w.heap.size) v (Sd.gOf x g):=by
 obtain ⟨FE,HFE⟩:∃ F,Hid (Sd.foundE x g=F):=⟨_,Lib.hid rfl⟩
 obtain ⟨FP,HFP⟩:∃ F,Hid (Sd.pOf x g=F):=⟨_,Lib.hid rfl⟩
 obtain ⟨FG,HFG⟩:∃ F,Hid (Sd.gOf x g=F):=⟨_,Lib.hid rfl⟩
 rw [HFE.out,HFP.out,HFG.out]
 unfold Sd.pOf at HFP
 unfold Sd.gOf at HFG
 rw [HFE.out] at HFP HFG
 unfold Sd.foundE at HFE
 obtain ⟨⟨p,pe⟩,HP⟩:∃ q,Hid (Prn.print x=q):=⟨_,Lib.hid rfl⟩
 rw [HP.out] at HFE HFP
 simp only at HFE HFP
 have HF:=Lib.hid hF
 have HKW:=Lib.hid hk
 have HV:=Lib.hid hv
 obtain ⟨A1,n1,c1,A2,n2,c2,A3,n3,c3,rfl,-,-,-⟩:=hv
 clear hF hk
 go_enter Tryz.func75,Tryz.ntmps75
 go_upto_region 1 with (fail)
 refine wp_named (fun V hV=>?_)
 have HL:Hid (Chk.Lx w V #[.string x.name,.slice A1 n1 c1,.slice A2 n2 c2,.slice A3 n3 c3]):=Lib.hid (by subst hV;exact ⟨((Below.refl _ _).alloc (Nat.le_refl _) _).alloc (by simp) _,(Bk.new w _ _).alloc _⟩)
 have HQ:Hid (Bk V (w.heap.size+1) 105 #[.string ⟨#[]⟩,.string ⟨#[]⟩,.slice none 0 0]):=Lib.hid (by subst hV;have h:=Bk.new (w.alloc (.cells #[.string x.name,.slice A1 n1 c1,.slice A2 n2 c2,.slice A3 n3 c3] 28)) 105 #[.string ⟨#[]⟩,.string ⟨#[]⟩,.slice none 0 0];rw [World.size_alloc] at h;exact h)
 clear hV
 obtain ⟨⟨q0,q1,q2,q3⟩,-⟩:=HL.out.box.k4
 go_wp2_with fail
 refine (pPrint_any _ x HF.out _ (HKW.out.below HL.out.bel) (Id.SchV.below HL.out.bel HV.out)).mono ?_
 rw [HP.out]
 rintro e W1 ⟨rfl,hb⟩
 have HL1:=Lib.hid (HL.out.below hb)
 have HQ1:=Lib.hid (HQ.out.below hb HQ.out.lt)
 clear hb q0 q1 q2 q3 HL HQ
 obtain ⟨⟨z0,z1,z2⟩,y0,y1,y2⟩:=HQ1.out.k3
 obtain ⟨⟨q0,q1,q2,q3⟩,-⟩:=HL1.out.box.k4
 by_cases hpe:pe=0
 case neg =>
  have HE:Hid (FE=pe):=Lib.hid (by rw [←HFE.out,if_pos hpe])
  obtain rfl:=HE.out
  have HE2:Hid (FP=0):=Lib.hid (by rw [←HFP.out,if_neg hpe])
  obtain rfl:=HE2.out
  have HE3:Hid (FG=Chk.sagZ):=Lib.hid (by rw [←HFG.out,if_neg hpe])
  obtain rfl:=HE3.out
  have t1:((FE:Int) != 0)=true:=by rw [bne_iff_ne];omega
  have t2:¬(FE:Int)=0:=by omega
  go_wp2_with fail
  clear z0 z1 z2
  obtain ⟨⟨e0,e1,e2⟩,-⟩:=Bk.k3 (Sd.set3 HQ1.out (y0:=.string ⟨#[]⟩) (y1:=.string ⟨#[]⟩) (y2:=.slice none 0 0))
  refine bodyPost_ret (v:=.tuple #[.agg #[.string ⟨#[]⟩,.string ⟨#[]⟩,.slice none 0 0],.int .u64 (0:Nat),.int .i64 (FE:Nat)]) ?_ rfl ⟨_,rfl,Sd.bel3 HL1.out.bel (by omega),Sd.sagZ_v _ _⟩
  rw [res_ctt rfl]
  go_simp
  try rfl
 subst hpe
 rw [if_neg (by simp)] at HFE
 go_wp2_with fail
 refine (csaga_any _ x g (fun r hr=>Nat.le_trans (HF.out.sa r hr).2.1 (by decide)) _ (Id.SchV.below HL1.out.bel HV.out)).mono ?_
 obtain ⟨GO,HGd⟩:∃ GO,Hid (Chk.sagaOf x g=GO):=⟨_,Lib.hid rfl⟩
 rw [HGd.out] at HFE ⊢
 rintro e W2 ⟨u,rfl,hb,hu⟩
 have HSG:Hid (Sd.sag x g=GO.getD Chk.sagZ):=Lib.hid (by unfold Sd.sag;rw [HGd.out])
 rw [HSG.out] at HFG
 obtain ⟨G,HG⟩:∃ G,Hid (GO.getD Chk.sagZ=G):=⟨_,Lib.hid rfl⟩
 rw [HG.out] at hu HFG
 have HS:=Lib.hid (Sd.sagV_old (B:=w.heap.size) (by have:=HL1.out.bel.size;omega) hu)
 obtain ⟨u2,rfl,hu2⟩:=hu
 obtain ⟨A6,n6,c6,rfl⟩:=ERow.is hu2
 clear hu2
 have HL2:=Lib.hid (HL1.out.below hb)
 have HQ2:=Lib.hid (HQ1.out.below hb HQ1.out.lt)
 clear hb q0 q1 q2 q3 z0 z1 z2 y0 y1 y2 HL1 HQ1
 obtain ⟨⟨z0,z1,z2⟩,y0,y1,y2⟩:=HQ2.out.k3
 obtain ⟨⟨q0,q1,q2,q3⟩,-⟩:=HL2.out.box.k4
 obtain ⟨gb,Hgb⟩:∃ gb,Hid (GO.isSome=gb):=⟨_,Lib.hid rfl⟩
 rw [Hgb.out] at HFE ⊢
 cases gb
 ·have HE:Hid (FE=240):=Lib.hid (by rw [←HFE.out];simp)
  obtain rfl:=HE.out
  have HE2:Hid (FP=0):=Lib.hid (by rw [←HFP.out];simp)
  obtain rfl:=HE2.out
  have HE3:Hid (FG=Chk.sagZ):=Lib.hid (by rw [←HFG.out];simp)
  obtain rfl:=HE3.out
  go_wp2_with fail
  clear z0 z1 z2
  have HQ3:=Lib.hid (Sd.set3 HQ2.out (y0:=.string G.name) (y1:=.string G.arg) (y2:=.slice A6 n6 c6))
  have HB3:=Lib.hid (Sd.bel3 HL2.out.bel (b:=w.heap.size+1) (y0:=.string G.name) (y1:=.string G.arg) (y2:=.slice A6 n6 c6) (by omega))
  obtain ⟨⟨e0,e1,e2⟩,-⟩:=Bk.k3 (Sd.set3 HQ3.out (y0:=.string ⟨#[]⟩) (y1:=.string ⟨#[]⟩) (y2:=.slice none 0 0))
  refine bodyPost_ret (v:=.tuple #[.agg #[.string ⟨#[]⟩,.string ⟨#[]⟩,.slice none 0 0],.int .u64 (0:Nat),.int .i64 (240:Nat)]) ?_ rfl ⟨_,rfl,Sd.bel3 HB3.out (by omega),Sd.sagZ_v _ _⟩
  rw [res_ctt rfl]
  go_simp
  try rfl
 ·have HE:Hid (FE=0):=Lib.hid (by rw [←HFE.out];simp)
  obtain rfl:=HE.out
  have HE2:Hid (FP=p):=Lib.hid (by rw [←HFP.out];simp)
  obtain rfl:=HE2.out
  have HE3:Hid (FG=G):=Lib.hid (by rw [←HFG.out];simp)
  obtain rfl:=HE3.out
  have HQ3:=Lib.hid (Sd.set3 HQ2.out (y0:=.string FG.name) (y1:=.string FG.arg) (y2:=.slice A6 n6 c6))
  have HB3:=Lib.hid (Sd.bel3 HL2.out.bel (b:=w.heap.size+1) (y0:=.string FG.name) (y1:=.string FG.arg) (y2:=.slice A6 n6 c6) (by omega))
  have HS3:=Lib.hid (Sd.sagV_set3 (y0:=.string FG.name) (y1:=.string FG.arg) (y2:=.slice A6 n6 c6) (by decide) HQ2.out HS.out)
  obtain ⟨⟨e0,e1,e2⟩,f0,f1,f2⟩:=HQ3.out.k3
  go_wp2_with fail
  clear z0 z1 z2
  have HQ4:=Lib.hid (Sd.set3 HQ3.out (y0:=.string FG.name) (y1:=.string FG.arg) (y2:=.slice A6 n6 c6))
  obtain ⟨⟨e0,e1,e2⟩,-⟩:=HQ4.out.k3
  refine bodyPost_ret (v:=.tuple #[.agg #[.string FG.name,.string FG.arg,.slice A6 n6 c6],.int .u64 (FP:Nat),.int .i64 (0:Nat)]) ?_ rfl ⟨_,rfl,Sd.bel3 HB3.out (by omega),Sd.sagV_set3 (by decide) HQ3.out HS3.out⟩
  rw [res_ctt rfl]
  go_simp
  try rfl
namespace Sd
open Go.Proofs.YtogijkhenihaaaaGreatDoor.Id Go.Proofs.YtogijkhenihaaaaGreatDoor.Chk Go.Proofs.YtogijkhenihaaaaGreatDoor.Ev
theorem gOf_len (x:Sch) (g:ByteArray):(gOf x g).steps.length=(steps x g).1:=by
 unfold gOf steps
 by_cases h:foundE x g=0
 ·rw [if_pos h,if_neg (by simp [h])]
 ·rw [if_neg h,if_pos h]
  rfl
theorem steps_err (x:Sch) (g:ByteArray):(steps x g).2=foundE x g:=by
 unfold steps
 by_cases h:foundE x g=0
 ·rw [if_neg (by simp [h]),h]
 ·rw [if_pos h]
end Sd
set_option maxRecDepth 100000 in
set_option maxHeartbeats 8000000 in
theorem ssteps_any (sv:Value) (x:Id.Sch) (hF:Chk.Fine x) (g:ByteArray) (w:World) (hk:Tk.KW w) (hv:Id.SchV w none sv x) :
  Calls Tryz.prog 24 #[sv,.string g] w fun e w'=>e=.returned (.tuple #[.int .i64 ((Sd.steps x g).1:Nat),.int .i64 ((Sd.steps x g).2:Nat)])∧Below w.heap.size w w':=by
 have hfo:=fun W k v=>sfound_any sv x hF g W k v
 rw [Sd.steps_err,←Sd.gOf_len]
 obtain ⟨G,HG⟩:∃ G,Hid (Sd.gOf x g=G):=⟨_,Lib.hid rfl⟩
 obtain ⟨FE,HFE⟩:∃ F,Hid (Sd.foundE x g=F):=⟨_,Lib.hid rfl⟩
 obtain ⟨FP,HFP⟩:∃ F,Hid (Sd.pOf x g=F):=⟨_,Lib.hid rfl⟩
 rw [HG.out,HFE.out]
 simp only [HG.out,HFE.out,HFP.out] at hfo
 have HFO:=Lib.hid hfo
 clear hfo
 have HKW:=Lib.hid hk
 have HV:=Lib.hid hv
 obtain ⟨A1,n1,c1,A2,n2,c2,A3,n3,c3,rfl,-,-,-⟩:=hv
 clear hk
 go_enter Tryz.func24,Tryz.ntmps24
 go_upto_region 1 with (fail)
 refine wp_named (fun V hV=>?_)
 have HL:Hid (Chk.Lx w V #[.string x.name,.slice A1 n1 c1,.slice A2 n2 c2,.slice A3 n3 c3]):=Lib.hid (by subst hV;exact ⟨(Below.refl _ _).alloc (Nat.le_refl _) _,Bk.new w _ _⟩)
 clear hV
 obtain ⟨⟨q0,q1,q2,q3⟩,-⟩:=HL.out.box.k4
 go_wp2_with fail
 refine (HFO.out _ (HKW.out.below HL.out.bel) (Id.SchV.below HL.out.bel HV.out)).mono ?_
 rintro e W1 ⟨v,rfl,hb,u,rfl,hu⟩
 obtain ⟨A6,n6,c6,rfl⟩:=ERow.is hu
 have HN:Hid (n6=G.steps.length):=Lib.hid (by obtain ⟨_,_,e,_⟩:=ERow.slice hu;injection e)
 have HB:=Lib.hid (HL.out.below hb).bel
 clear hb hu q0 q1 q2 q3
 go_upto_region 2 with (fail)
 refine wp_named (fun V2 hV=>?_)
 obtain ⟨hbV,hqV,-⟩:=fresh_box hV
 obtain ⟨⟨b0,b1,b2⟩,-⟩:=hqV.k3
 have HB2:=Lib.hid (HB.out.trans (hbV.mono HB.out.size))
 clear hV hbV hqV
 go_wp2_with fail
 refine bodyPost_ret (results_tmp2 rfl _ _ _) rfl ⟨by rw [HN.out];rfl,HB2.out⟩
end Go.Proofs.YtogijkhenihaaaaGreatDoor
set_option linter.unusedVariables false
namespace Go.Proofs.YtogijkhenihaaaaGreatDoor
open Go.RowKit
theorem ret_row {P:Program} {fn:Func} {R:Ending→World→Prop} {a:Act} {w:World} {p u:Tmp} {ty:TypeId} (h:fn.results=#[.cell p ty,.tmp u]) (g:Nat) (hp:a.tmps.getD p undef=.pointer (some ⟨g,0,none⟩))
  (t:TypeId) (cs:Array Value) (d:TypeDesc) (hg:Bk w g t cs) (hu:P.underlying ty=some d) (hd:(match d with | .struct _ | .array _ _=>true | _=>false)=true) (hi:(P.info? ty).map (·.size)=some cs.size)
  (hdf:a.defers=[]) (hR:R (.returned (.tuple #[.agg cs,a.tmps.getD u undef])) w):bodyPost P fn R .ret a w:=by
 refine bodyPost_ret (v:=.tuple #[.agg cs,a.tmps.getD u undef]) ?_ hdf hR
 rw [results_cell_tmp h,hp]
 have hl:=run_loadVar_row (P:=P) w g t ty cs (0,0) d hg hu hd hi
 simp only [asAddr,Sem.run_pure,Result.andThen_ok,hl]
end Go.Proofs.YtogijkhenihaaaaGreatDoor
set_option linter.unusedVariables false
set_option linter.unusedSimpArgs false
namespace Go.Proofs.YtogijkhenihaaaaGreatDoor
open Go.RowKit Go.BigFrame
namespace Lst
section
variable {P : Program} {ops : Array Oper} {Q : Exit → Act → World → Prop} {md : Region.Mode} {S : World → Prop} {z : Nat}
/-- Each ahead of z has one behind it, up to z, that waits for it. -/
def lastM (md:Region.Mode) (ops:Array Oper) (z:Nat):Bool :=
 (List.range z).all fun i=>(List.range (z+1)).any fun j=>decide (i<j)&&match ops[j]? with
  | none=>false
  | some o=>o.after.any fun e=>Region.binds md e&&e.on==i
theorem Shut.allM {listed:Array Bool} (h:Shut md ops listed) (hL:lastM md ops z=true) (hz:z∈Region.ready md ops listed):∀ i,i<z→listed.getD i false=true:=by
 unfold lastM at hL
 have key:∀ n i,z - i=n→i<z→listed.getD i false=true:=by
  intro n
  induction n using Nat.strongRecOn with
  | _ n ih =>
   intro i hn hi
   obtain ⟨j,hj,hjj⟩:=List.any_eq_true.1 (List.all_eq_true.1 hL i (List.mem_range.2 hi))
   simp only [Bool.and_eq_true,decide_eq_true_eq] at hjj
   obtain ⟨hij,hjj⟩:=hjj
   have hjz2:j<z+1:=List.mem_range.1 hj
   have hjs:j<ops.size:=by
    obtain ⟨_,o',ho',_⟩:=mem_ready.1 hz
    have:=(Array.getElem?_eq_some_iff.1 ho').1
    omega
   rw [Array.getElem?_eq_getElem hjs] at hjj
   simp only at hjj
   obtain ⟨m,hm,hmm⟩:=Array.any_eq_true.1 hjj
   simp only [Bool.and_eq_true,beq_iff_eq] at hmm
   have hjo:ops[j]?=some ops[j]:=Array.getElem?_eq_getElem hjs
   rw [←hmm.2]
   by_cases hjz:j=z
   ·subst hjz
    obtain ⟨_,o',ho',hall⟩:=mem_ready.1 hz
    rw [hjo] at ho'
    injection ho' with ho'
    subst ho'
    exact hall _ (Array.getElem_mem hm) hmm.1
   ·exact h.2 j _ hjo (ih (z - j) (by omega) j rfl (by omega)) _ (Array.getElem_mem hm) hmm.1
 exact fun i hi=>key _ i rfl hi
theorem firstM {i:Nat} {oi:Oper} {v:Value} (hi:ops[i]?=some oi) (hsel:∀ (j:Nat) (o:Oper) cs b,ops[j]?=some o→o.op≠.select cs b)
  (hQ:∀ c a w,Q (.panic c) (a.put oi.dst v) w→Q (.panic c) a w) (hL:lastM md ops z=true) (hiz:i<z) :
  ∀ (fuel:Nat) (listed:Array Bool) (a:Act) (w:World),
   Shut md ops listed→noneOf [z] listed=true →
   (∀ j oj,ops[j]?=some oj→j≠i→listed.getD j true=false→(∀ e∈oj.after,Region.binds md e=true→e.on≠i)→oi.apart ops oj=true) →
   i∈Region.ready md ops listed→YieldsIf P ops S oi v a→S w →
   wpAnyL P md ops Q S [z] fuel (listed.setIfInBounds i true) (a.put oi.dst v) w→wpAnyL P md ops Q S [z] (fuel+1) listed a w:=by
 intro fuel
 induction fuel with
 | zero =>
  intro listed a w hs hD _ hr hy hS H
  refine ⟨fun h=>(by rw [h] at hr;cases hr),fun j hj=>?_⟩
  by_cases hji:j=i
  ·subst hji;exact hy.wpOp hi hS ⟨fun _=>hS,H⟩
  ·have:=ready_mono hj hji
   rw [H.1] at this
   cases this
 | succ fuel ih =>
  intro listed a w hs hD hfree hr hy hS H
  refine ⟨fun h=>(by rw [h] at hr;cases hr),fun j hj=>?_⟩
  by_cases hji:j=i
  ·subst hji;exact hy.wpOp hi hS ⟨fun _=>hS,H⟩
  ·have h1:=H.2 j (ready_mono hj hji)
   obtain ⟨hjun,oj,hoj,hall⟩:=mem_ready.1 hj
   have hnot:∀ e∈oj.after,Region.binds md e=true→e.on≠i:=fun e he hb heq=>by
    have h1:=hall e he hb
    have h0:=(mem_ready.1 hr).1
    rw [heq] at h1
    rcases Nat.lt_or_ge i listed.size with h' | h'
    ·simp [h'] at h0 h1;rw [h0] at h1;cases h1
    ·simp [Array.getElem?_eq_none h'] at h1
   have h2:=wpOp_putIf hoj (hfree j oj hoj hji hjun hnot) (fun cs b=>hsel i oi cs b hi) (fun cs b=>hsel j oj cs b hoj) hQ hy h1
   have hfree':∀ k ok,ops[k]?=some ok→k≠i→(listed.setIfInBounds j true).getD k true=false →
     (∀ e∈ok.after,Region.binds md e=true→e.on≠i)→oi.apart ops ok=true:=fun k ok hk hki hun hno=>by
    refine hfree k ok hk hki ?_ hno
    by_cases hjk:j=k
    ·subst hjk;exact hjun
    ·rw [getD_set_ne true hjk] at hun;exact hun
   have hiD:i ∉ [z]:=by simp;omega
   have hjD:j ∉ [z]:=by
    intro hjz
    simp at hjz
    subst hjz
    have h1:=Shut.allM hs hL hj i hiz
    have h0:=(mem_ready.1 hr).1
    have hls:i<listed.size:=by rw [hs.1];exact (Array.getElem?_eq_some_iff.1 hi).1
    simp [hls] at h0 h1
    rw [h0] at h1
    cases h1
   have hD':=noneOf_set hD hjD
   refine wpOp_mono (fun a' w' h3=>⟨fun _=>h3.2.1 (noneOf_set (noneOf_set hD hiD) hjD),ih (listed.setIfInBounds j true) a' w' (hs.next hj) hD' hfree' (ready_mono hr (Ne.symm hji)) h3.1 (h3.2.1 (noneOf_set (noneOf_set hD hiD) hjD)) ?_⟩) h2
   rw [Array.setIfInBounds_comm _ _ hji]
   exact h3.2.2
theorem takeM (z i:Nat) {oi:Oper} {v:Value} {fuel:Nat} {listed:Array Bool} {a:Act} {w:World} (hi:ops[i]?=some oi)
  (hs:Region.noSelect ops=true) (hf:Region.free md ops listed i=true) (hr:(Region.ready md ops listed).contains i=true) (hL:lastM md ops z=true) (hz:(decide (i<z)&&noneOf [z] listed)=true) (hsh:shutB md ops listed=true)
  (hQ:∀ c a w,Q (.panic c) (a.put oi.dst v) w→Q (.panic c) a w) (hS:S w) (hw:Region.wanted oi (yielded ops a.tmps)=true) (hy:∀ w,S w→(execOp a.eval oi).run P w=.ok (.value v) w)
  (h:wpAnyL P md ops Q S [z] fuel (listed.setIfInBounds i true) (a.put oi.dst v) w):wpAnyL P md ops Q S [z] (fuel+1) listed a w:=by
 simp only [Bool.and_eq_true,decide_eq_true_eq] at hz
 exact firstM hi (Region.noSelect_spec hs) hQ hL hz.1 fuel listed a w (shut_of hsh) hz.2 (Region.free_spec hi hf) (by simpa using hr) (.inl ⟨hw,hy⟩) hS h
end
end Lst
end Go.Proofs.YtogijkhenihaaaaGreatDoor
