/- values, plain: how the least depths are found, by the program and by the document. No condition. -/
import Derived.Test.YtjfdohhdkdjifaaGreatDoorPL21
import Derived.Test.YtjfdohhdkdjifaaGreatDoorPL17
set_option linter.unusedVariables false
set_option linter.unusedSimpArgs false
namespace Go.Proofs.YtjfdohhdkdjifaaGreatDoor
open Go.RowKit Go.BigFrame
namespace Vl
open Go.Proofs.YtjfdohhdkdjifaaGreatDoor.Id Go.Proofs.YtjfdohhdkdjifaaGreatDoor.Chk Go.Proofs.YtjfdohhdkdjifaaGreatDoor.Prn
theorem Min.uniq {s:Sch} {kn kn':Kn} (h:Min s kn) (h':Min s kn') (n:ByteArray):kn n=kn' n:=by
 by_cases h0:kn n=0
 ·by_cases h1:kn' n=0
  ·omega
  ·have:=(h n).2 _ ((h' n).1 h1)
   omega
 ·have a:=(h' n).2 _ ((h n).1 h0)
  have b:=(h n).2 _ ((h' n).1 a.1)
  omega
theorem least_ex {P:Nat→Prop}:∀ (d:Nat),P d→∃ e,P e∧∀ f,P f→e≤f
 | d,h=>by
  by_cases hx:∃ e,e<d∧P e
  ·obtain ⟨e,he,hp⟩:=hx
   exact least_ex e hp
  ·exact ⟨d,h,fun f hf=>by
    rcases Nat.lt_or_ge f d with h1 | h1
    ·exact absurd ⟨f,h1,hf⟩ hx
    ·exact h1⟩
theorem min_ex (s:Sch):∃ kn:Kn,Min s kn:=by
 have h:∀ n:ByteArray,∃ k:Nat,(k≠0→lvT s k [⟨7,n⟩]=true)∧∀ d,lvT s d [⟨7,n⟩]=true→k≠0∧k≤d:=fun n=>by
  by_cases hx:∃ d,lvT s d [⟨7,n⟩]=true
  ·obtain ⟨d,hd⟩:=hx
   obtain ⟨e,he,hl⟩:=least_ex (P:=fun d=>lvT s d [⟨7,n⟩]=true) d hd
   refine ⟨e,fun _=>he,fun f hf=>⟨fun h0=>?_,hl f hf⟩⟩
   subst h0
   cases he
  ·exact ⟨0,fun h=>absurd rfl h,fun d hd=>absurd ⟨d,hd⟩ hx⟩
 exact ⟨fun n=>(h n).choose,fun n=>(h n).choose_spec⟩
noncomputable def lstK (s:Sch):Kn:=(min_ex s).choose
theorem lstK_min (s:Sch):Min s (lstK s):=(min_ex s).choose_spec
theorem Min.none {s:Sch} {kn:Kn} (h:Min s kn) {n:ByteArray} (hn:find s n=none):kn n=0:=by
 rcases Nat.eq_zero_or_pos (kn n) with h0 | h0
 ·exact h0
 ·have:=(h n).1 (by omega)
  obtain ⟨d,hd⟩:∃ d,kn n=d+1:=⟨kn n - 1,by omega⟩
  rw [hd] at this
  unfold lvT at this
  simp only [if_true,hn] at this
  cases this
/-- A name's depth, found anew. -/
def upd (kn:Kn) (n:ByteArray) (d:Nat):Kn:=fun m=>if (n.toList==m.toList)=true then d else kn m
theorem upd_same (kn:Kn) (n:ByteArray) (d:Nat):upd kn n d n=d:=by unfold upd;rw [if_pos (by simp)]
theorem upd_other (kn:Kn) {n m:ByteArray} (d:Nat) (h:n≠m):upd kn n d m=kn m:=by
 unfold upd
 rw [if_neg]
 intro e
 exact h (Tk.text_eq (by simpa using e))
/-- Does a record's depth change? -/
def chg (kn:Kn) (r:Rec):Bool:=(lstD kn r).2&&(kn r.name==0||decide ((lstD kn r).1<kn r.name))
def cntK (rs:List Rec) (kn:Kn):Nat:=rs.countP (fun r=>kn r.name != 0)
def Bd (rs:List Rec) (kn:Kn):Prop:=∀ n,kn n≤cntK rs kn+1
def val (rs:List Rec) (kn:Kn) (n:ByteArray):Nat:=if kn n=0 then rs.length+2 else kn n
def meas (rs:List Rec) (kn:Kn):Nat:=(rs.map fun r=>val rs kn r.name).sum
theorem cnt_le (rs:List Rec) (kn:Kn):cntK rs kn≤rs.length:=List.countP_le_length
theorem Bd.dpt {rs:List Rec} {kn:Kn} (h:Bd rs kn) (t:List Srt):Vl.dpt kn t≤cntK rs kn+1:=by
 cases t with
 | nil=>exact Nat.zero_le _
 | cons x t =>
  unfold Vl.dpt
  simp only
  split
  ·exact h _
  ·omega
theorem Bd.lst {rs:List Rec} {kn:Kn} (h:Bd rs kn) (r:Rec):(lstD kn r).1≤cntK rs kn+2∧1≤(lstD kn r).1:=by
 obtain ⟨h1,h2,h3,h4,h5,h6⟩:=lst_fold kn r.fields ⟨0,0,false⟩
 have e:r.fields.foldl (lstStep kn) ⟨0,0,false⟩=lstF kn r:=rfl
 rw [e] at h1 h6
 unfold lstD
 split
 ·simp only
  by_cases hb:(lstF kn r).best=0
  ·omega
  ·obtain ⟨f,hf,he⟩:=h6 hb
   have:=h.dpt f.type
   omega
 ·simp only
  have:=(h1 (cntK rs kn+1)).2 ⟨Nat.zero_le _,fun f hf=>h.dpt f.type⟩
  omega
theorem cnt_upd {rs:List Rec} {kn:Kn} {n:ByteArray} {d:Nat} (hd:d≠0):cntK rs kn≤cntK rs (upd kn n d):=by
 unfold cntK
 refine List.countP_mono_left fun r _ hr=>?_
 by_cases h:n=r.name
 ·subst h;rw [upd_same];simpa using hd
 ·rw [upd_other kn d h];exact hr
theorem cnt_new {kn:Kn} {n:ByteArray} {d:Nat} (hd:d≠0) (h0:kn n=0):∀ {rs:List Rec},(∃ r∈rs,r.name=n)→cntK rs kn+1≤cntK rs (upd kn n d)
 | [],h=>by obtain ⟨r,hr,_⟩:=h;cases hr
 | q::rs,h=>by
  unfold cntK
  rw [List.countP_cons,List.countP_cons]
  by_cases hq:q.name=n
  ·subst hq
   rw [upd_same,h0]
   have:=cnt_upd (rs:=rs) (kn:=kn) (n:=q.name) hd
   unfold cntK at this
   simp only [bne_self_eq_false,Bool.false_eq_true,if_false,bne_iff_ne,ne_eq,hd,not_false_eq_true,if_true]
   omega
  ·obtain ⟨r,hr,hn⟩:=h
   have hr:r∈rs:=by
    rcases List.mem_cons.1 hr with rfl | hr
    ·exact absurd hn hq
    ·exact hr
   have:=cnt_new (kn:=kn) hd h0 ⟨r,hr,hn⟩
   unfold cntK at this
   rw [upd_other kn d (fun e=>hq e.symm)]
   omega
theorem chg_lt {rs:List Rec} {kn:Kn} (h:Bd rs kn) {r:Rec} (hr:r∈rs) (hc:chg kn r=true):(lstD kn r).2=true∧(lstD kn r).1≠0∧(kn r.name=0∨(lstD kn r).1<kn r.name)∧Bd rs (upd kn r.name (lstD kn r).1)∧(lstD kn r).1<val rs kn r.name:=by
 unfold chg at hc
 simp only [Bool.and_eq_true,Bool.or_eq_true,beq_iff_eq,decide_eq_true_eq] at hc
 obtain ⟨h1,h2⟩:=hc
 obtain ⟨l1,l2⟩:=h.lst r
 have hd:(lstD kn r).1≠0:=by omega
 have hle:=cnt_le rs (upd kn r.name (lstD kn r).1)
 have hu:=cnt_upd (rs:=rs) (kn:=kn) (n:=r.name) hd
 refine ⟨h1,hd,h2,fun n=>?_,?_⟩
 ·by_cases hn:r.name=n
  ·subst hn
   rw [upd_same]
   rcases h2 with h2 | h2
   ·have:=cnt_new (kn:=kn) hd h2 ⟨r,hr,rfl⟩
    omega
   ·have:=h r.name
    omega
  ·rw [upd_other kn _ hn]
   have:=h n
   omega
 ·unfold val
  split
  ·rename_i h0
   have:=cnt_new (kn:=kn) hd h0 ⟨r,hr,rfl⟩
   omega
  ·omega
theorem sum_le {α:Type} {f g:α→Nat}:∀ {l:List α},(∀ x∈l,f x≤g x)→(l.map f).sum≤(l.map g).sum
 | [],_=>Nat.le_refl _
 | x::l,h=>by
  simp only [List.map_cons,List.sum_cons]
  have:=h x (by simp)
  have:=sum_le (f:=f) (g:=g) (l:=l) (fun y hy=>h y (by simp [hy]))
  omega
theorem sum_lt {α:Type} {f g:α→Nat}:∀ {l:List α},(∀ x∈l,f x≤g x)→(∃ x∈l,f x<g x)→(l.map f).sum<(l.map g).sum
 | [],_,h=>by obtain ⟨x,hx,_⟩:=h;cases hx
 | x::l,h,he=>by
  simp only [List.map_cons,List.sum_cons]
  have h1:=h x (by simp)
  obtain ⟨y,hy,hlt⟩:=he
  rcases List.mem_cons.1 hy with rfl | hy
  ·have:=sum_le (f:=f) (g:=g) (l:=l) (fun y hy=>h y (by simp [hy]))
   omega
  ·have:=sum_lt (f:=f) (g:=g) (l:=l) (fun y hy=>h y (by simp [hy])) ⟨y,hy,hlt⟩
   omega
theorem meas_upd {rs:List Rec} {kn:Kn} {r:Rec} (hr:r∈rs) {d:Nat} (hd:d≠0) (hlt:d<val rs kn r.name):meas rs (upd kn r.name d)<meas rs kn:=by
 have hv:∀ q:Rec,val rs (upd kn r.name d) q.name=if r.name=q.name then d else val rs kn q.name:=fun q=>by
  split
  ·rename_i h
   unfold val
   rw [←h,upd_same,if_neg hd]
  ·rename_i h
   unfold val
   rw [upd_other kn d h]
 unfold meas
 refine sum_lt (fun q hq=>?_) ⟨r,hr,?_⟩
 ·rw [hv]
  split
  ·rename_i h;rw [←h];omega
  ·exact Nat.le_refl _
 ·rw [hv,if_pos rfl]
  exact hlt
theorem meas_le (rs:List Rec) (kn:Kn) (h:Bd rs kn):meas rs kn≤rs.length * (rs.length+2):=by
 have:∀ l:List Rec,(l.map fun r=>val rs kn r.name).sum≤l.length * (rs.length+2):=fun l=>by
  induction l with
  | nil=>simp
  | cons r l ih =>
   simp only [List.map_cons,List.sum_cons,List.length_cons]
   have:val rs kn r.name≤rs.length+2:=by
    unfold val
    split
    ·omega
    ·have:=h r.name
     have:=cnt_le rs kn
     omega
   rw [Nat.add_mul]
   omega
 exact this rs
def kn0:Kn:=fun _=>0
theorem kn0_bd (rs:List Rec):Bd rs kn0:=fun n=>Nat.zero_le _
theorem kn0_sd (s:Sch):Sd s kn0:=fun n h=>absurd rfl h
theorem Sd.upd {s:Sch} {kn:Kn} (h:Sd s kn) {r:Rec} (hf:find s r.name=some r) (ho:(lstD kn r).2=true):Sd s (Vl.upd kn r.name (lstD kn r).1):=fun n hn=>by
 by_cases hr:r.name=n
 ·subst hr
  rw [upd_same]
  exact h.rec hf ho
 ·rw [upd_other kn _ hr] at hn ⊢
  exact h n hn
/-- A pass over the records, so far: kb the depths at its beginning. -/
structure Pass (s:Sch) (kb kn:Kn) (again:Bool) (k:Nat):Prop where
 sd:Sd s kn
 bd:Bd s.records kn
 no:again=false→kn=kb∧∀ r∈s.records.take k,chg kn r=false
 yes:again=true→meas s.records kn<meas s.records kb
theorem Pass.start {s:Sch} {kn:Kn} (h:Sd s kn) (hb:Bd s.records kn):Pass s kn kn false 0:=⟨h,hb,fun _=>⟨rfl,by simp⟩,fun h=>by cases h⟩
theorem Pass.same {s:Sch} {kb kn:Kn} {a:Bool} {k:Nat} (h:Pass s kb kn a k) (hk:k<s.records.length) (hc:chg kn s.records[k]=false):Pass s kb kn a (k+1) :=
 ⟨h.sd,h.bd,fun ha=>⟨(h.no ha).1,fun r hr=>by
  rw [List.take_succ_eq_append_getElem hk] at hr
  rcases List.mem_append.1 hr with hr | hr
  ·exact (h.no ha).2 r hr
  ·rw [List.mem_singleton] at hr;subst hr;exact hc⟩,h.yes⟩
theorem Pass.new {s:Sch} (hR:Right s) {kb kn:Kn} {a:Bool} {k:Nat} (h:Pass s kb kn a k) (hk:k<s.records.length) (hc:chg kn s.records[k]=true):Pass s kb (upd kn s.records[k].name (lstD kn s.records[k]).1) true (k+1)∧meas s.records (upd kn s.records[k].name (lstD kn s.records[k]).1)<meas s.records kn:=by
 have hm:=List.getElem_mem hk
 obtain ⟨h1,h2,h3,h4,h5⟩:=chg_lt h.bd hm hc
 have hlt:=meas_upd hm h2 h5
 refine ⟨⟨h.sd.upd (right_find hR hm) h1,h4,fun h=>by (cases h),fun _=>?_⟩,hlt⟩
 cases a
 ·rw [←(h.no rfl).1]
  exact hlt
 ·exact Nat.lt_trans hlt (h.yes rfl)
theorem Pass.stop {s:Sch} {kb kn:Kn} (h:Pass s kb kn false s.records.length):Min s kn:=by
 refine Stop.min (fun r hr ho=>?_) h.sd
 have:=(h.no rfl).2 r (by rw [List.take_length];exact hr)
 unfold chg at this
 rw [ho,Bool.true_and,Bool.or_eq_false_iff] at this
 simp only [beq_eq_false_iff_ne,decide_eq_false_iff_not] at this
 exact ⟨this.1,by omega⟩
/-- The depths up to a bound. -/
def kdF (kn:Kn) (d:Nat):Kn:=fun n=>if kn n≤d then kn n else 0
theorem dpt_kd (kn:Kn) {d:Nat} (hd:1≤d) (t:List Srt):dpt (kdF kn d) t=if dpt kn t≤d then dpt kn t else 0:=by
 cases t with
 | nil=>simp [dpt]
 | cons x t =>
  unfold dpt kdF
  simp only
  by_cases h:x.kind=7
  ·rw [if_pos h,if_pos h]
  ·rw [if_neg h,if_neg h,if_pos hd]
/-- A field's type has a value below a depth, as the document asks. -/
def okD (kn:Kn) (d:Nat) (f:Fld):Bool:=decide (0<dpt kn f.type)&&decide (dpt kn f.type<d)
def rndD (kn:Kn) (d:Nat) (r:Rec):Bool:=kn r.name==0&&(if r.choice then r.fields.any (okD kn d) else r.fields.all (okD kn d))
theorem okD_kd {kn:Kn} {d:Nat} {f:Fld} (h0:dpt kn f.type≠0):okD (kdF kn d) (d+1) f=decide (dpt kn f.type≤d):=by
 unfold okD
 rcases Nat.eq_zero_or_pos d with rfl | hd
 ·have e1:decide (dpt kn f.type≤0)=false:=by rw [decide_eq_false_iff_not];omega
  rw [e1]
  rw [Bool.eq_false_iff]
  intro h
  rw [Bool.and_eq_true,decide_eq_true_eq,decide_eq_true_eq] at h
  omega
 ·rw [dpt_kd kn hd]
  by_cases h:dpt kn f.type≤d
  ·rw [if_pos h,decide_eq_true h,decide_eq_true (show 0<dpt kn f.type by omega),decide_eq_true (show dpt kn f.type<d+1 by omega)];rfl
  ·rw [if_neg h,decide_eq_false h];rfl
theorem any_le {l:List Fld} {p:Fld→Nat} {d:Nat}:l.any (fun f=>decide (p f≤d))=true↔∃ f∈l,p f≤d:=by
 rw [List.any_eq_true]
 simp only [decide_eq_true_eq]
theorem rnd_kd {s:Sch} (hR:Right s) {kn:Kn} (h:Min s kn) {r:Rec} (hr:r∈s.records) (d:Nat):rndD (kdF kn d) (d+1) r=decide (kn r.name=d+1):=by
 have hf:=right_find hR hr
 have h0:kn r.name≠0:=by
  obtain ⟨e,he⟩:=right_lv hR hr
  exact ((h _).2 e he).1
 have hd0:∀ f∈r.fields,dpt kn f.type≠0:=fun f hfm=>h.of_right hR (right_okT (field_right hR hr hfm)).1
 obtain ⟨l1,l2⟩:=h.lst hf h0
 obtain ⟨f1,f2,f3,f4,f5,f6⟩:=lst_fold kn r.fields ⟨0,0,false⟩
 have e:r.fields.foldl (lstStep kn) ⟨0,0,false⟩=lstF kn r:=rfl
 rw [e] at f1 f3 f4 f6
 have hany:r.fields.any (okD (kdF kn d) (d+1))=r.fields.any (fun f=>decide (dpt kn f.type≤d)):=by
  rw [Bool.eq_iff_iff,List.any_eq_true,List.any_eq_true]
  exact ⟨fun ⟨f,hf,hp⟩=>⟨f,hf,by rw [←okD_kd (hd0 f hf)];exact hp⟩,fun ⟨f,hf,hp⟩=>⟨f,hf,by rw [okD_kd (hd0 f hf)];exact hp⟩⟩
 have hall:r.fields.all (okD (kdF kn d) (d+1))=r.fields.all (fun f=>decide (dpt kn f.type≤d)):=by
  rw [Bool.eq_iff_iff,List.all_eq_true,List.all_eq_true]
  exact ⟨fun h f hf=>by rw [←okD_kd (hd0 f hf)];exact h f hf,fun h f hf=>by rw [okD_kd (hd0 f hf)];exact h f hf⟩
 have h00:(kdF kn d r.name==0)=decide (d<kn r.name):=by
  unfold kdF
  rw [Bool.eq_iff_iff,beq_iff_eq,decide_eq_true_eq]
  split <;> omega
 unfold rndD
 rw [hany,hall,h00]
 unfold lstD at l1 l2
 rw [Bool.eq_iff_iff,Bool.and_eq_true,decide_eq_true_eq,decide_eq_true_eq]
 cases hc:r.choice
 ·rw [hc] at l1 l2
  simp only [Bool.false_eq_true,if_false] at l1 l2 ⊢
  rw [List.all_eq_true]
  simp only [decide_eq_true_eq]
  have hw:=f1 d
  constructor
  ·rintro ⟨a,b⟩
   have:=hw.2 ⟨Nat.zero_le _,b⟩
   omega
  ·intro a
   exact ⟨by omega,(hw.1 (by omega)).2⟩
 ·rw [hc] at l1 l2
  simp only [if_true,decide_eq_true_eq] at l1 l2 ⊢
  rw [any_le]
  constructor
  ·rintro ⟨a,f,hfm,b⟩
   have:=f4 f hfm (hd0 f hfm)
   omega
  ·intro a
   obtain ⟨f,hfm,he⟩:=f6 (by simp only;omega)
   exact ⟨by omega,f,hfm,by omega⟩
theorem kd_next {kn:Kn} {d:Nat} (n:ByteArray):kdF kn (d+1) n=if kn n=d+1 then d+1 else kdF kn d n:=by
 unfold kdF
 split <;> split <;> (try split) <;> omega
end Vl
end Go.Proofs.YtjfdohhdkdjifaaGreatDoor
set_option linter.unusedVariables false
set_option linter.unusedSimpArgs false
namespace Go.Proofs.YtjfdohhdkdjifaaGreatDoor
open Go.RowKit Go.BigFrame Go.Maps Go.WideMaps
namespace Vl
open Go.Proofs.YtjfdohhdkdjifaaGreatDoor.Id Go.Proofs.YtjfdohhdkdjifaaGreatDoor.Chk
/-- A map that holds depths; p: how often it was written. -/
def KnM (w:World) (b:Nat) (kn:Kn) (p:Nat):Prop :=
 ∃ D:DataW Unit,w.ownsMap Tryz.prog 9 (plainElem Tryz.prog 3) b p D∧∀ s:ByteArray,D.atKey (.string s.data.toList) (i64L 0)=i64L (kn s)
theorem KnM.made (w:World):KnM (w.alloc (.map #[] 0)) w.heap.size kn0 0:=⟨_,World.ownsMap_made _ _ _ _,fun s=>rfl⟩
theorem KnM.kept {w w':World} {row:Option Nat} {b p:Nat} {kn:Kn} (h:KnM w b kn p) (hg:w.grownBy w' row) (hne:some b≠row):KnM w' b kn p:=let ⟨D,h1,h2⟩:=h;⟨D,h1.kept hg hne,h2⟩
theorem KnM.below {w w':World} {b p:Nat} {kn:Kn} (h:KnM w b kn p) (hg:Below w.heap.size w w'):KnM w' b kn p:=h.kept (gb_below hg none) (by simp)
theorem KnM.lt {w:World} {b p:Nat} {kn:Kn} (h:KnM w b kn p):b<w.heap.size:=let ⟨_,h1,_⟩:=h;h1.lt
theorem KnM.drewN {w:World} {b p:Nat} {kn:Kn} (h:KnM w b kn p) (n:Nat):KnM (w.drewN n) b kn p:=h
theorem KnM.look {w:World} {b p:Nat} {kn:Kn} (h:KnM w b kn p) (s:ByteArray) (hs:s.size≤1000):(Instr.lookup 117 (.map (some b)) (.string s) false).run Tryz.prog w=.ok (.int .i64 (kn s)) w:=by
 obtain ⟨D,h1,h2⟩:=h
 obtain ⟨c,hrun,hat,_⟩:=h1.lookup_int strKey Tryz.underlying117 Tryz.underlying3 (zeroInt _) (key_of (s:=s) (by unfold maxLen;omega))
 obtain rfl:=i64_eq (h2 s) hat
 exact hrun
theorem KnM.put {w':World} {b p d:Nat} {kn:Kn} {D:DataW Unit} (him:IsMap D) (hat:∀ s:ByteArray,D.atKey (.string s.data.toList) (i64L 0)=i64L (kn s)) (name:ByteArray)
  (h:w'.ownsMap Tryz.prog 9 (plainElem Tryz.prog 3) b (p+1) (D.put (.string name.data.toList) (i64L d))):KnM w' b (upd kn name d) (p+1):=by
 refine ⟨_,h,fun s=>?_⟩
 unfold upd
 cases hs:(name.toList==s.toList)
 ·rw [atKey_put_other (Chk.data_ne hs),hat s]
  simp
 ·obtain rfl:=Chk.data_eq hs
  rw [atKey_put_same (k:=.string name.data.toList) him (by unfold WideAt.IsKeyLit;trivial) _ _]
  simp
end Vl
set_option maxRecDepth 100000 in
set_option maxHeartbeats 8000000 in
theorem vdepth_any (mb p:Nat) (kn:Vl.Kn) (tv:Value) (t:List Id.Srt) (h0:t≠[]) (hz:∀ x∈t,x.name.size≤1000) (w:World) (hm:Vl.KnM w mb kn p) (ht:Id.SortsR w none tv t) :
  Calls Tryz.prog 63 #[tv,.map (some mb)] w fun e w'=>e=.returned (.int .i64 (Vl.dpt kn t))∧∃ q,w'=w.drewN q:=by
 obtain ⟨A,c,rfl,hnc,hcm,-⟩:=ERow.slice ht
 cases t with
 | nil=>exact absurd rfl h0
 | cons x l =>
  obtain ⟨g,off,cs,rfl,-,e1,hc⟩:=ERow.get ht (i:=0) (by simp) (by omega)
  unfold Id.SortE Id.Srt.cells at e1
  subst e1
  have a0:=hc 0 _ rfl
  have a1:=hc 1 _ rfl
  have hxz:=hz x (by simp)
  have hk:=Vl.KnM.look hm x.name hxz
  simp only [Nat.zero_mul,Nat.add_zero,List.getElem_cons_zero] at a0 a1
  have hl0:(0:Int)<(l.length:Int)+1:=by omega
  have hl1:0<l.length+1:=by omega
  simp only [List.length_cons] at hnc ⊢
  clear hc ht hm hz hxz h0
  generalize l.length=m at *
  rw [show Vl.dpt kn (x::l)=(if x.kind=7 then kn x.name else 1) from rfl]
  generalize kn x.name=kd at *
  obtain ⟨xk,xn⟩:=x
  simp only at a0 a1 hk ⊢
  by_cases h7:xk=7
  ·subst h7
   rw [if_pos rfl]
   go_enter Tryz.func63,Tryz.ntmps63
   go_wp2_with fail
   go_ret
   exact ⟨rfl,0,rfl⟩
  ·have t7:((xk:Int)==7)=false:=by rw [beq_eq_false_iff_ne];omega
   have t8:¬(xk:Int)=7:=by omega
   rw [if_neg h7]
   clear h7 hk
   go_enter Tryz.func63,Tryz.ntmps63
   go_wp2_with fail
   go_ret
   exact ⟨rfl,0,rfl⟩
end Go.Proofs.YtjfdohhdkdjifaaGreatDoor
set_option linter.unusedVariables false
set_option linter.unusedSimpArgs false
namespace Go.Proofs.YtjfdohhdkdjifaaGreatDoor
open Go.RowKit Go.BigFrame
namespace Vl
open Go.Proofs.YtjfdohhdkdjifaaGreatDoor.Id Go.Proofs.YtjfdohhdkdjifaaGreatDoor.Chk
theorem dpt_kd_le {kn:Kn} {t:List Srt} (h0:dpt kn t≠0):dpt (kdF kn 12) t=0↔12<dpt kn t:=by
 rw [dpt_kd kn (by decide)]
 split <;> omega
/-- What the parts of several types are, one behind the other. -/
def bldL (s:Sch) (kn:Kn) (k:Nat) (fs:List Fld):List Node:=fs.flatMap fun f=>bldF s kn k f.type
theorem bld_plain {s:Sch} {kn:Kn} {k:Nat} {x:Srt} {t:List Srt} (h:x.kind≠7):bldF s kn (k+1) (x::t)=[⟨x.kind,0,⟨#[]⟩,0⟩]:=by unfold bldF;rw [if_neg h]
theorem bld_choice {s:Sch} {kn:Kn} {k:Nat} {x:Srt} {t:List Srt} {r:Rec} (h:x.kind=7) (hf:find s x.name=some r) (hc:r.choice=true) (hw:way kn r (kn x.name - 1)<r.fields.length) :
  bldF s kn (k+1) (x::t)=⟨8,way kn r (kn x.name - 1),⟨#[]⟩,1⟩::bldF s kn k (r.fields[way kn r (kn x.name - 1)]'hw).type:=by
 conv=>lhs;unfold bldF
 rw [if_pos h,hf]
 simp only
 rw [if_pos hc]
 congr 2
 simp [List.getD,hw]
theorem bld_record {s:Sch} {kn:Kn} {k:Nat} {x:Srt} {t:List Srt} {r:Rec} (h:x.kind=7) (hf:find s x.name=some r) (hc:r.choice=false) :
  bldF s kn (k+1) (x::t)=⟨7,0,⟨#[]⟩,r.fields.length⟩::bldL s kn k r.fields:=by
 conv=>lhs;unfold bldF
 rw [if_pos h,hf]
 simp only
 rw [if_neg (by rw [hc];decide)]
 rfl
/-- The document's table: d where a record is in the list, else what was known. -/
def lstA (kn:Kn) (d:Nat) (rs:List Rec) (S:List Nat):List Nat:=(List.range rs.length).map fun j=>if j∈S then d else kn (rs.getD j recZ).name
theorem lstA_len (kn:Kn) (d:Nat) (rs:List Rec) (S:List Nat):(lstA kn d rs S).length=rs.length:=by simp [lstA]
theorem lstA_get {kn:Kn} {d:Nat} {rs:List Rec} {S:List Nat} {j:Nat} (h:j<(lstA kn d rs S).length) (h':j<rs.length):(lstA kn d rs S)[j]=if j∈S then d else kn (rs[j]).name:=by
 have e:(lstA kn d rs S)[j]?=some (if j∈S then d else kn (rs[j]).name):=by
  unfold lstA
  rw [List.getElem?_map,List.getElem?_range h']
  simp [List.getD,h']
 rw [List.getElem?_eq_getElem h] at e
 exact Option.some.inj e
theorem lstA_nil (kn:Kn) (d:Nat) (rs:List Rec):lstA kn d rs []=rs.map (fun r=>kn r.name):=by
 refine List.ext_getElem (by simp [lstA]) fun j h h'=>?_
 rw [lstA_get h (by simpa using h')]
 simp
theorem lstA_set {kn:Kn} {d:Nat} {rs:List Rec} {S:List Nat} {j:Nat} (hj:j<rs.length):(lstA kn d rs S).set j d=lstA kn d rs (S++[j]):=by
 refine List.ext_getElem (by simp [lstA]) fun i h h'=>?_
 have hi:i<rs.length:=by rw [lstA_len] at h';exact h'
 rw [lstA_get h' hi,List.getElem_set]
 split
 ·rename_i e
  subst e
  rw [if_pos (by simp)]
 ·rename_i e
  rw [lstA_get (by rw [lstA_len];exact hi) hi]
  by_cases hm:i∈S
  ·rw [if_pos hm,if_pos (by simp [hm])]
  ·rw [if_neg hm,if_neg (by simp [hm];omega)]
def nowF (kn:Kn) (d:Nat) (rs:List Rec) (k:Nat):List Nat:=(List.range k).filter fun j=>rndD kn d (rs.getD j recZ)
theorem nowF_next (kn:Kn) (d:Nat) (rs:List Rec) {k:Nat} (h:k<rs.length):nowF kn d rs (k+1)=if rndD kn d rs[k]=true then nowF kn d rs k++[k] else nowF kn d rs k:=by
 unfold nowF
 rw [List.range_succ,List.filter_append]
 have e:rs.getD k recZ=rs[k]:=by simp [List.getD,h]
 split
 ·rename_i h1
  rw [List.filter_cons_of_pos (by rw [e];exact h1)]
  rfl
 ·rename_i h1
  rw [List.filter_cons_of_neg (by rw [e];exact h1)]
  simp
theorem nowF_lt {kn:Kn} {d:Nat} {rs:List Rec} {k j:Nat} (h:j∈nowF kn d rs k):j<k:=List.mem_range.1 (List.mem_filter.1 h).1
theorem nowF_len (kn:Kn) (d:Nat) (rs:List Rec) (k:Nat):(nowF kn d rs k).length≤k:=by
 unfold nowF
 have:=List.length_filter_le (fun j=>rndD kn d (rs.getD j recZ)) (List.range k)
 simpa using this
theorem lstA_end {s:Sch} (hR:Right s) {kn:Kn} (h:Min s kn) (d:Nat):lstA (kdF kn d) (d+1) s.records (nowF (kdF kn d) (d+1) s.records s.records.length)=s.records.map (fun r=>kdF kn (d+1) r.name):=by
 refine List.ext_getElem (by simp [lstA]) fun j hj hj'=>?_
 have hjl:j<s.records.length:=by simpa using hj'
 rw [lstA_get hj hjl,List.getElem_map,kd_next]
 have hm:j∈nowF (kdF kn d) (d+1) s.records s.records.length↔kn s.records[j].name=d+1:=by
  unfold nowF
  rw [List.mem_filter,List.mem_range]
  have e:s.records.getD j recZ=s.records[j]:=by simp [List.getD,hjl]
  rw [e,rnd_kd hR h (List.getElem_mem hjl),decide_eq_true_eq]
  exact ⟨fun h=>h.2,fun h=>⟨hjl,h⟩⟩
 by_cases hk:kn s.records[j].name=d+1
 ·rw [if_pos (hm.2 hk),if_pos hk]
 ·rw [if_neg (fun h=>hk (hm.1 h)),if_neg hk]
theorem kd_zero {s:Sch} {kn:Kn} (h:Min s kn) (d:Nat) {n:ByteArray} (hn:find s n=none):kdF kn d n=0:=by
 unfold kdF
 rw [h.none hn]
 simp
theorem kd_zero0 (kn:Kn) (rs:List Rec):rs.map (fun r=>kdF kn 0 r.name)=List.replicate rs.length 0:=by
 refine List.ext_getElem (by simp) fun j h h'=>?_
 rw [List.getElem_map,List.getElem_replicate]
 unfold kdF
 split <;> omega
end Vl
end Go.Proofs.YtjfdohhdkdjifaaGreatDoor
set_option linter.unusedVariables false
set_option linter.unusedSimpArgs false
namespace Go.Proofs.YtjfdohhdkdjifaaGreatDoor
open Go.RowKit Go.BigFrame Go.Maps Go.WideMaps
namespace Vl
open Go.Proofs.YtjfdohhdkdjifaaGreatDoor.Id Go.Proofs.YtjfdohhdkdjifaaGreatDoor.Chk
def lstO (kn:Kn) (a:LstS) (rc:Bool):Nat × Bool:=if rc then (a.best+1,decide (0<a.best)) else (a.worst+1,!a.miss)
theorem lstD_eq (kn:Kn) (rn:ByteArray) (rc:Bool) (fs:List Fld):lstD kn ⟨rn,rc,fs⟩=lstO kn (fs.foldl (lstStep kn) ⟨0,0,false⟩) rc:=rfl
/-- Within value.least: the record's box, and what else lies there. -/
structure LsW (w wr:World) (S:Array Value) (mb p:Nat) (kn:Kn):Prop where
 bel:Below w.heap.size w wr
 box:Bk wr w.heap.size 42 S
 map:KnM wr mb kn p
theorem LsW.below {w wr w':World} {S:Array Value} {mb p:Nat} {kn:Kn} (h:LsW w wr S mb p kn) (hb:Below wr.heap.size wr w'):LsW w w' S mb p kn:=⟨h.bel.trans (hb.mono h.bel.size),h.box.below hb h.box.lt,h.map.below hb⟩
end Vl
set_option maxRecDepth 100000 in
set_option maxHeartbeats 16000000 in
theorem vlst_any (mb p:Nat) (kn:Vl.Kn) (hkn:∀ n,kn n≤100000) (rn:ByteArray) (rc:Bool) (A:Option Addr) (n c:Nat) (fs:List Id.Fld) (hz:∀ f∈fs,f.type≠[]∧∀ x∈f.type,x.name.size≤1000) (w:World) (hm:Vl.KnM w mb kn p) (hf:Id.FldsR w none (.slice A n c) fs) :
  Calls Tryz.prog 65 #[.agg #[.string rn,.bool rc,.slice A n c],.map (some mb)] w fun e w'=>e=.returned (.tuple #[.int .i64 (Vl.lstD kn ⟨rn,rc,fs⟩).1,.bool (Vl.lstD kn ⟨rn,rc,fs⟩).2])∧Below w.heap.size w w':=by
 rw [Vl.lstD_eq]
 obtain ⟨R,HR⟩:∃ R,Hid (fs.foldl (Vl.lstStep kn) ⟨0,0,false⟩=R):=⟨_,Lib.hid rfl⟩
 rw [HR.out]
 have HF:=Lib.hid hf
 have HN:Hid (n=fs.length):=Lib.hid (by obtain ⟨_,_,e,_⟩:=ERow.slice hf;injection e)
 have hn:n≤9223372036854775807:=by obtain ⟨_,_,e,_,_⟩:=ERow.slice hf;injection e;omega
 have HZ:=Lib.hid hz
 have HM:=Lib.hid hm
 have HKN:=Lib.hid hkn
 clear hf hz hm hkn
 go_enter Tryz.func65,Tryz.ntmps65
 go_upto_region 1 with (fail)
 refine wp_named (fun V hV=>?_)
 have HW:Hid (Vl.LsW w V #[.string rn,.bool rc,.slice A n c] mb p kn):=Lib.hid (by subst hV;have hb:=((Below.refl w.heap.size w).alloc (Nat.le_refl _) (.cells #[.string rn,.bool rc,.slice A n c] 42));exact ⟨hb,Bk.new w _ _,HM.out.below hb⟩)
 clear hV
 obtain ⟨⟨b0,b1,b2⟩,-⟩:=HW.out.box.k3
 go_wp2_with fail
 clear b0 b1 b2
 go_loopw [15,6,7,8] (fun i s6 s7 s8 wr=>∃ (k b z:Nat) (ms:Bool),k≤n∧i=.int .i64 k∧s6=.int .i64 b∧s7=.int .i64 z∧s8=.bool ms∧b≤100000∧z≤100000∧Hid ((fs.drop k).foldl (Vl.lstStep kn) ⟨b,z,ms⟩=R)∧Hid (Vl.LsW w wr #[.string rn,.bool rc,.slice A n c] mb p kn)) (fun i _ _ _ _=>n - (intOf i).toNat)
 case atStart=>exact ⟨0,0,0,false,by omega,rfl,rfl,rfl,rfl,by omega,by omega,HR,HW⟩
 case round =>
  obtain ⟨k,b,z,ms,hk,rfl,rfl,rfl,rfl,hb1,hz1,HI,HWk⟩:=hrel
  obtain ⟨U,rfl⟩:∃ w',w'=wr:=⟨_,rfl⟩
  have ik0:(0:Int)≤(k:Int):=by omega
  by_cases hlt:k<n
  case neg =>
   have HX:Hid (R=⟨b,z,ms⟩):=Lib.hid (by have h:=HI.out;rw [List.drop_of_length_le (by have:=HN.out;omega)] at h;exact h.symm)
   obtain ⟨⟨b0,b1,b2⟩,-⟩:=HWk.out.box.k3
   cases rc
   ·go_wp2_with fail
    go_ret2
    exact ⟨by rw [HX.out];rfl,HWk.out.bel⟩
   ·have hbi:decide ((0:Int)<(b:Int))=decide (0<b):=by rw [decide_eq_decide];omega
    by_cases hb0:0<b
    ·have t1:(0:Int)<(b:Int):=by omega
     go_wp2_with fail
     go_ret2
     exact ⟨by rw [HX.out];unfold Vl.lstO;simp [hb0],HWk.out.bel⟩
    ·have t1:¬(0:Int)<(b:Int):=by omega
     go_wp2_with fail
     go_ret2
     exact ⟨by rw [HX.out];unfold Vl.lstO;simp [hb0],HWk.out.bel⟩
  have hka:k<fs.length:=by rw [←HN.out];exact hlt
  have ik1:(k:Int)<(n:Int):=by omega
  obtain ⟨g,off,cs,rfl,-,⟨u,he,HU⟩,hc⟩:=ERow.get HF.out hka (by omega)
  obtain ⟨r,Hr⟩:∃ r,Hid (fs[k]=r):=⟨_,Lib.hid rfl⟩
  have hzk:=HZ.out fs[k] (List.getElem_mem hka)
  have hI:=HI.out
  rw [List.drop_eq_getElem_cons hka,Hr.out,List.foldl_cons] at hI
  rw [Hr.out] at he HU hzk
  obtain ⟨yn,yt⟩:=r
  subst he
  simp only at HU hc hzk
  obtain ⟨A7,n7,c7,rfl⟩:=ERow.is HU
  have H7:=Lib.hid HU
  have HZK:=Lib.hid hzk
  have a0:=hc 0 _ rfl
  have a1:=hc 1 _ rfl
  simp only [Nat.add_zero] at a0
  have hgl:g<w.heap.size:=World.block_lt_of_cell? w _ a0
  have a0:=(HWk.out.bel.cell hgl).trans a0
  have a1:=(HWk.out.bel.cell hgl).trans a1
  clear hc HU Hr hzk HI
  obtain ⟨d,Hd⟩:∃ d,Hid (Vl.dpt kn yt=d):=⟨_,Lib.hid rfl⟩
  have hd1:d≤100000:=by
   rw [←Hd.out]
   unfold Vl.dpt
   split
   ·omega
   ·split
    ·exact HKN.out _
    ·omega
  unfold Vl.lstStep at hI
  simp only at hI
  rw [Hd.out] at hI
  have HI:=Lib.hid hI
  clear hI
  go_upto_region 5 with (fail)
  refine wp_named (fun V1 hV=>?_)
  obtain ⟨hb,hq,-⟩:=fresh_box hV
  clear hV
  have HW1:=Lib.hid (HWk.out.below hb)
  obtain ⟨⟨y0,y1⟩,-⟩:=hq.k2
  clear hb hq a0 a1
  go_wp2_with fail
  refine (vdepth_any mb p kn _ yt HZK.out.1 HZK.out.2 _ HW1.out.map (ERow.below H7.out HW1.out.bel (fun _ _ h=>h))).mono ?_
  rw [Hd.out]
  rintro e V2 ⟨rfl,q,rfl⟩
  have HW2:=Lib.hid (HW1.out.below (below_drewN (Below.refl _ _) q))
  clear y0 y1 HW1
  generalize V1.drewN q=V2 at *
  have step:∀ b' z' ms',(⟨b',z',ms'⟩:Vl.LstS)=⟨if 0<d∧(b=0∨d<b) then d else b,max z d,ms||d==0⟩→Hid ((fs.drop (k+1)).foldl (Vl.lstStep kn) ⟨b',z',ms'⟩=R):=fun b' z' ms' h=>Lib.hid (by rw [h];exact HI.out)
  have HST:=Lib.hid step
  clear step HI
  by_cases hd0:d=0
  ·subst hd0
   have hmx:max (z:Int) ((0:Nat):Int)=(z:Int):=by omega
   cases ms
   all_goals
    simp only [Int.cast_ofNat_Int] at *
    go_wp2_with fail
    go_roundw
    case rel=>exact ⟨k+1,b,z,true,by omega,by go_num,rfl,rfl,rfl,hb1,hz1,HST.out _ _ _ (by simp),HW2⟩
    case measure=>simp [intOf];omega
  have td0:¬(d:Int)=0:=by omega
  have td1:((d:Int)==0)=false:=beq_eq_false_iff_ne.2 td0
  have td2:(0:Int)<(d:Int):=by omega
  have hde:(d==0)=false:=beq_eq_false_iff_ne.2 hd0
  have hz2:max z d≤100000:=by omega
  have hdp:0<d:=by omega
  by_cases hb0:b=0
  ·subst hb0
   cases ms
   all_goals
    simp only [Int.cast_ofNat_Int] at *
    go_wp2_with fail
    go_roundw
    case rel=>exact ⟨k+1,d,max z d,_,by omega,by go_num,rfl,by first | rfl | (congr 1;omega),rfl,hd1,hz2,HST.out _ _ _ (by simp [hdp,hde]),HW2⟩
    case measure=>simp [intOf];omega
  have tb0:¬(b:Int)=0:=by omega
  have tb1:((b:Int)==0)=false:=beq_eq_false_iff_ne.2 tb0
  by_cases hdb:d<b
  ·have tb2:(d:Int)<(b:Int):=by omega
   cases ms
   all_goals
    go_wp2_with fail
    go_roundw
    case rel=>exact ⟨k+1,d,max z d,_,by omega,by go_num,rfl,by first | rfl | (congr 1;omega),rfl,hd1,hz2,HST.out _ _ _ (by simp [hdp,hde,hdb]),HW2⟩
    case measure=>simp [intOf];omega
  ·have tb2:¬(d:Int)<(b:Int):=by omega
   cases ms
   all_goals
    go_wp2_with fail
    go_roundw
    case rel=>exact ⟨k+1,b,max z d,_,by omega,by go_num,rfl,by first | rfl | (congr 1;omega),rfl,hb1,hz2,HST.out _ _ _ (by simp [hde,hdb,hb0]),HW2⟩
    case measure=>simp [intOf];omega
namespace Vl
open Go.Proofs.YtjfdohhdkdjifaaGreatDoor.Id Go.Proofs.YtjfdohhdkdjifaaGreatDoor.Chk
/-- Within value.depths: the schema's box and the map. -/
structure DpW (w wr:World) (S:Array Value) (kn:Kn) (p:Nat):Prop where
 bel:Below w.heap.size w wr
 box:Bk wr w.heap.size 28 S
 map:KnM wr (w.heap.size+1) kn p
 size:w.heap.size+2≤wr.heap.size
theorem DpW.below {w wr w':World} {S:Array Value} {kn:Kn} {p:Nat} (h:DpW w wr S kn p) (hb:Below wr.heap.size wr w'):DpW w w' S kn p:=⟨h.bel.trans (hb.mono h.bel.size),h.box.below hb h.box.lt,h.map.below hb,Nat.le_trans h.size hb.size⟩
theorem DpW.put {w wr w':World} {S:Array Value} {kn kn':Kn} {p p':Nat} (h:DpW w wr S kn p) (hg:wr.grownBy w' (some (w.heap.size+1))) (hm:KnM w' (w.heap.size+1) kn' p'):DpW w w' S kn' p' :=
 ⟨below_gb h.bel hg (by omega) h.bel.size,h.box.grown hg (by intro e;injection e with e;omega),hm,Nat.le_trans h.size hg.size⟩
theorem Bd.all {rs:List Rec} {kn:Kn} (h:Bd rs kn) (hl:rs.length≤1000):∀ n,kn n≤100000:=fun n=>by
 have:=h n
 have:=cnt_le rs kn
 omega
def DepthsP (x:Sch) (w:World) (e:Ending) (w':World):Prop:=∃ b kn p,e=.returned (.map (some b))∧Below w.heap.size w w'∧w.heap.size≤b∧KnM w' b kn p∧Min x kn∧∀ n,kn n≤100000
theorem fine_flds {x:Sch} (hR:Right x) (hF:Fine x) {r:Rec} (hr:r∈x.records):∀ f∈r.fields,f.type≠[]∧∀ y∈f.type,y.name.size≤1000 :=
 fun f hf=>⟨okT_ne (right_okT (field_right hR hr hf)).1,((hF.re r hr).2.2 f hf).2.2⟩
end Vl
set_option maxRecDepth 100000 in
set_option maxHeartbeats 16000000 in
theorem vdepths_any (v:Value) (x:Id.Sch) (hR:Chk.Right x) (hF:Chk.Fine x) (w:World) (hv:Id.SchV w none v x) :
  Calls Tryz.prog 62 #[v] w (Vl.DepthsP x w):=by
 obtain ⟨A1,n1,c1,A2,n2,c2,A3,n3,c3,rfl,r1,-,-⟩:=hv
 have HN:Hid (n1=x.records.length):=Lib.hid (by obtain ⟨_,_,e,_⟩:=ERow.slice r1;injection e)
 have hm1:n1≤1000:=by rw [HN.out];exact hF.recs
 have H1:=Lib.hid r1
 have HR:=Lib.hid hR
 have HF:=Lib.hid hF
 obtain ⟨B,HB⟩:∃ B,Hid (Vl.meas x.records Vl.kn0=B):=⟨_,Lib.hid rfl⟩
 have hB:B≤2000000:=by
  rw [←HB.out]
  refine Nat.le_trans (Vl.meas_le x.records Vl.kn0 (Vl.kn0_bd _)) ?_
  have h:=hF.recs
  exact Nat.le_trans (Nat.mul_le_mul h (Nat.add_le_add_right h 2)) (by decide)
 clear r1 hR hF
 obtain ⟨S,HSeq⟩:∃ S:Array Value,Hid (S=#[.string x.name,.slice A1 n1 c1,.slice A2 n2 c2,.slice A3 n3 c3]):=⟨_,Lib.hid rfl⟩
 have hmm:=@run_makeMap Tryz.prog
 go_enter Tryz.func62,Tryz.ntmps62
 go_upto_region 2 with (fail)
 refine wp_named (fun W0 hW0=>?_)
 have HW0:Hid (Vl.DpW w W0 S Vl.kn0 0):=Lib.hid (by
  subst hW0
  rw [HSeq.out]
  have hb:=(((Below.refl w.heap.size w).alloc (Nat.le_refl _) (.cells #[.string x.name,.slice A1 n1 c1,.slice A2 n2 c2,.slice A3 n3 c3] 28)).alloc (by simp) (.map #[] 0))
  have q1:=Vl.KnM.made (w.alloc (.cells #[.string x.name,.slice A1 n1 c1,.slice A2 n2 c2,.slice A3 n3 c3] 28))
  simp only [World.size_alloc] at q1
  exact ⟨hb,(Bk.new w _ _).alloc _,q1,by simp⟩)
 clear hW0 hmm
 go_wp2_with fail
 go_loopg [4] (B+1) (fun m s4 wr=>∃ (again:Bool) (kn:Vl.Kn) (p:Nat),s4=.bool again∧Hid (Vl.Sd x kn∧Vl.Bd x.records kn∧(again=false→Vl.Min x kn))∧Hid (m=if again then Vl.meas x.records kn+1 else 0)∧Hid (p+Vl.meas x.records kn≤B)∧Hid (Vl.DpW w wr S kn p))
 case atStart=>exact ⟨true,Vl.kn0,0,rfl,Lib.hid ⟨Vl.kn0_sd x,Vl.kn0_bd _,fun h=>by cases h⟩,Lib.hid (by rw [HB.out];rfl),Lib.hid (by rw [HB.out];omega),HW0⟩
 case round =>
  obtain ⟨again,kb,p0,rfl,HI,HM,HP0,HW⟩:=hrel
  obtain ⟨Wo,rfl⟩:∃ w',w'=wr:=⟨_,rfl⟩
  cases again with
  | false =>
   go_wp2_with fail
   go_ret
   exact ⟨_,kb,p0,rfl,HW.out.bel,by omega,HW.out.map,HI.out.2.2 (by first | rfl | trivial),HI.out.2.1.all HF.out.recs⟩
  | true =>
   have hbx:=HW.out.box
   rw [HSeq.out] at hbx
   obtain ⟨⟨q0,q1,q2,q3⟩,-⟩:=hbx.k4
   clear hbx
   go_wp2_with fail
   clear q0 q1 q2 q3
   go_loopw [15,4] (fun i s4 wr=>∃ (j:Nat) (again:Bool) (kn:Vl.Kn) (p:Nat),j≤n1∧i=.int .i64 j∧s4=.bool again∧Hid (Vl.Pass x kb kn again j)∧Hid (p+Vl.meas x.records kn≤B)∧Hid (Vl.DpW w wr S kn p)) (fun i _ _=>n1 - (intOf i).toNat)
   case atStart=>exact ⟨0,false,kb,p0,by omega,rfl,rfl,Lib.hid (Vl.Pass.start HI.out.1 HI.out.2.1),HP0,HW⟩
   case round =>
    obtain ⟨j,again,kn,p,hj,rfl,rfl,HP,HPB,HW1⟩:=hrel
    obtain ⟨W1,rfl⟩:∃ w',w'=wr:=⟨_,rfl⟩
    by_cases hlt:j<n1
    case neg =>
     obtain rfl:j=n1:=by omega
     have hP:=HP.out
     rw [HN.out] at hP
     go_wp2_with fail
     go_roundg (if again then Vl.meas x.records kn+1 else 0)
     case rel=>exact ⟨again,kn,p,rfl,Lib.hid ⟨hP.sd,hP.bd,fun h=>by subst h;exact hP.stop⟩,Lib.hid rfl,HPB,HW1⟩
     case measure =>
      have hm:=HM.out
      simp only [if_true] at hm
      cases again
      ·simp;omega
      ·have:=hP.yes rfl
       simp;omega
    have hka:j<x.records.length:=by rw [←HN.out];exact hlt
    obtain ⟨g,off,cs,rfl,-,⟨u,he,HU⟩,hc⟩:=ERow.get H1.out hka (by omega)
    have HMm:=Lib.hid (List.getElem_mem hka)
    have hsame:=fun h=>HP.out.same hka h
    have hnew:=fun h=>HP.out.new HR.out hka h
    obtain ⟨r,Hr⟩:∃ r,Hid (x.records[j]=r):=⟨_,Lib.hid rfl⟩
    rw [Hr.out] at he HU HMm hsame hnew
    obtain ⟨rn,rc,rf⟩:=r
    subst he
    simp only at HU hc hsame hnew
    have HSA:=Lib.hid hsame
    have HNE:=Lib.hid hnew
    have HFL:=Lib.hid (Vl.fine_flds HR.out HF.out HMm.out)
    have hrz:rn.size≤1000:=(HF.out.re _ HMm.out).1
    have HKN:=Lib.hid (HP.out.bd.all HF.out.recs)
    have a0:=hc 0 _ rfl
    have a1:=hc 1 _ rfl
    have a2:=hc 2 _ rfl
    simp only [Nat.add_zero] at a0
    have hgl:g<w.heap.size:=World.block_lt_of_cell? w _ a0
    have a0:=(HW1.out.bel.cell hgl).trans a0
    have a1:=(HW1.out.bel.cell hgl).trans a1
    have a2:=(HW1.out.bel.cell hgl).trans a2
    have i0:(0:Int)≤(j:Int):=by omega
    have i1:(j:Int)<(n1:Int):=by omega
    obtain ⟨A5,n5,c5,rfl⟩:=ERow.is HU
    have HU2:=Lib.hid HU
    clear hc hka HU hsame hnew Hr
    go_upto_region 8 with (fail)
    refine wp_named (fun W2 hW2=>?_)
    obtain ⟨hb2,hq2,-⟩:=fresh_box hW2
    clear hW2
    have HW2:=Lib.hid (HW1.out.below hb2)
    have HQ2:=Lib.hid hq2
    have hW1s:=HW1.out.size
    clear hb2 a0 a1 a2
    obtain ⟨⟨b0,b1,b2⟩,-⟩:=hq2.k3
    clear hq2
    obtain ⟨⟨d,ok⟩,HD⟩:∃ q,Hid (Vl.lstD kn ⟨rn,rc,rf⟩=q):=⟨_,Lib.hid rfl⟩
    have hd1:d≤100001:=by
     have h:=(HP.out.bd.lst ⟨rn,rc,rf⟩).1
     rw [HD.out] at h
     have:=Vl.cnt_le x.records kn
     have:=HF.out.recs
     simp only at h
     omega
    obtain ⟨wd,Hwd⟩:∃ q,Hid (kn rn=q):=⟨_,Lib.hid rfl⟩
    have hCH:Hid (Vl.chg kn ⟨rn,rc,rf⟩=(ok&&(wd==0||decide (d<wd)))):=Lib.hid (by unfold Vl.chg;rw [HD.out];simp only;rw [Hwd.out])
    go_wp2_with fail
    refine (vlst_any (w.heap.size+1) p kn HKN.out rn rc A5 n5 c5 rf HFL.out _ HW2.out.map (ERow.below HU2.out HW2.out.bel (Id.FldE.below HW2.out.bel))).mono ?_
    rw [HD.out]
    rintro e W3 ⟨rfl,hb3⟩
    simp only
    have HW3:=Lib.hid (HW2.out.below hb3)
    have HQ3:=Lib.hid (HQ2.out.below hb3 HQ2.out.lt)
    clear b0 b1 b2 hb3 HW2 HQ2
    obtain ⟨⟨b0,b1,b2⟩,-⟩:=HQ3.out.k3
    have hlook:=HW3.out.map.look rn hrz
    rw [Hwd.out] at hlook
    have skip:(ok&&(wd==0||decide (d<wd)))=false→Hid (Vl.Pass x kb kn again (j+1)):=fun h=>Lib.hid (HSA.out (by rw [hCH.out];exact h))
    have take:(ok&&(wd==0||decide (d<wd)))=true→Hid (Vl.Pass x kb (Vl.upd kn rn d) true (j+1)∧Vl.meas x.records (Vl.upd kn rn d)<Vl.meas x.records kn):=fun h=>Lib.hid (by have h2:=HNE.out (by rw [hCH.out];exact h);rw [HD.out] at h2;exact h2)
    have HSK:=Lib.hid skip
    have HTK:=Lib.hid take
    clear skip take
    have hplen:p≤2000000:=by have:=HPB.out;omega
    cases ok
    ·go_wp2_with fail
     go_roundw
     case rel=>exact ⟨j+1,again,kn,p,by omega,by go_num,rfl,HSK.out rfl,HPB,HW3⟩
     case measure=>simp [intOf];omega
    by_cases hw0:wd=0
    ·subst hw0
     have HT:=HTK.out rfl
     obtain ⟨D,hown,hat⟩:=HW3.out.map
     have hkey:=key_of (s:=rn) (by unfold maxLen;omega)
     have HAT:=Lib.hid hat
     have hwf:(Lit.int IntKind.i64 (d:Int)).wf=true:=WalkArith.wf_i64 (by omega)
     clear hat
     simp only [Int.cast_ofNat_Int] at *
     go_wp2_with (first | (at_mapUpdate;refine wpList_mapUpdate_own _ rfl _ _ _ 117 rfl 9 3 strKey Tryz.underlying117 _ (w.heap.size+1) p _ rfl hown (by unfold maxLen;omega) _ _ _ rfl rfl hkey _ [] (plainElem_int Tryz.underlying3 hwf) ?_;intro w1 hown1 hgrow1) | go_in)
     have HW4:=Lib.hid (HW3.out.put hgrow1 (Vl.KnM.put (ownsMap_isMap hown) HAT.out rn hown1))
     clear hown1 hgrow1 hown hlook b0 b1 b2
     go_wp2_with fail
     go_roundw
     case rel=>exact ⟨j+1,true,_,p+1,by omega,by go_num,rfl,Lib.hid HT.out.1,Lib.hid (by have:=HT.out.2;have:=HPB.out;omega),HW4⟩
     case measure=>simp [intOf];omega
    have tw0:¬(wd:Int)=0:=by omega
    have tw1:((wd:Int)==0)=false:=beq_eq_false_iff_ne.2 tw0
    by_cases hdw:d<wd
    ·have HT:=HTK.out (by simp [hdw])
     have tdw:(d:Int)<(wd:Int):=by omega
     obtain ⟨D,hown,hat⟩:=HW3.out.map
     have hkey:=key_of (s:=rn) (by unfold maxLen;omega)
     have HAT:=Lib.hid hat
     have hwf:(Lit.int IntKind.i64 (d:Int)).wf=true:=WalkArith.wf_i64 (by omega)
     clear hat
     go_wp2_with (first | (at_mapUpdate;refine wpList_mapUpdate_own _ rfl _ _ _ 117 rfl 9 3 strKey Tryz.underlying117 _ (w.heap.size+1) p _ rfl hown (by unfold maxLen;omega) _ _ _ rfl rfl hkey _ [] (plainElem_int Tryz.underlying3 hwf) ?_;intro w1 hown1 hgrow1) | go_in)
     have HW4:=Lib.hid (HW3.out.put hgrow1 (Vl.KnM.put (ownsMap_isMap hown) HAT.out rn hown1))
     clear hown1 hgrow1 hown hlook b0 b1 b2
     go_wp2_with fail
     go_roundw
     case rel=>exact ⟨j+1,true,_,p+1,by omega,by go_num,rfl,Lib.hid HT.out.1,Lib.hid (by have:=HT.out.2;have:=HPB.out;omega),HW4⟩
     case measure=>simp [intOf];omega
    ·have tdw:¬(d:Int)<(wd:Int):=by omega
     go_wp2_with fail
     go_roundw
     case rel=>exact ⟨j+1,again,kn,p,by omega,by go_num,rfl,HSK.out (by simp [hdw,hw0]),HPB,HW3⟩
     case measure=>simp [intOf];omega
end Go.Proofs.YtjfdohhdkdjifaaGreatDoor
