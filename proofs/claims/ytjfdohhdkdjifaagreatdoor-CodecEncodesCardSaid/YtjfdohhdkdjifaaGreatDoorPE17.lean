/- values, plain: what a value of a type is, and where a whole ends. No condition. -/
import Derived.Test.YtjfdohhdkdjifaaGreatDoorPE16
import Derived.Test.YtjfdohhdkdjifaaGreatDoorPE14
import Derived.Test.YtjfdohhdkdjifaaGreatDoorPE03
set_option linter.unusedVariables false
set_option linter.unusedSimpArgs false
namespace Go.Proofs.YtjfdohhdkdjifaaGreatDoor
open Go.RowKit Go.BigFrame
namespace Vl
open Go.Proofs.YtjfdohhdkdjifaaGreatDoor.Id Go.Proofs.YtjfdohhdkdjifaaGreatDoor.Chk
structure Node where
 kind:Nat
 int:Int
 text:ByteArray
 kids:Int
def Node.cells (n:Node):List Value:=[.int .u8 n.kind,.int .i64 n.int,.string n.text,.int .i64 n.kids]
def NodE (w:World) (cs:List Value) (n:Node):Prop:=cs=n.cells
def ValR (w:World) (B:Option Nat) (v:Value) (l:List Node):Prop:=ERow w B 71 4 NodE v l
/-- A part without others. -/
def leaf (k:Nat) (n:Node):Bool:=n.kind==k&&(n.kids==0)&&(n.int==0||k==3||(k==2&&n.int==1))&&(n.text.toList.isEmpty||k==4)
def kidsRec (r:Rec) (n:Node):Option (List (List Srt)) :=
 if r.choice=true then
  if n.kind=8∧n.text.toList.isEmpty=true∧n.kids=1∧0≤n.int∧n.int<r.fields.length then some [(r.fields.map (·.type)).getD n.int.toNat []] else none
 else if n.kind=7∧n.int=0∧n.text.toList.isEmpty=true∧n.kids=r.fields.length then some (r.fields.map (·.type)) else none
/-- How many parts a list, or an opt, may have. -/
def wlim (lim k:Nat):Nat:=if k=6 then 1 else lim
def kidsWrap (lim k:Nat) (t:List Srt) (n:Node):Option (List (List Srt)) :=
 if n.kind=k∧n.int=0∧n.text.toList.isEmpty=true∧0≤n.kids∧n.kids≤(wlim lim k:Int) then some (List.replicate n.kids.toNat t) else none
def kidsOf (s:Sch) (lim:Nat) (x:Srt) (t:List Srt) (n:Node):Option (List (List Srt)) :=
 if x.kind=5∨x.kind=6 then kidsWrap lim x.kind t n else kidsRec ((find s x.name).getD recZ) n
def manyF (f:List Srt→List Node→Option (Nat × List Node)):List (List Srt)→Nat→List Node→Option (Nat × List Node)
 | [],d,r=>some (d,r)
 | t::ts,d,r=>match f t r with
  | none=>none
  | some p=>manyF f ts (max d p.1) p.2
def up (p:Option (Nat × List Node)):Option (Nat × List Node):=p.map fun p=>(p.1+1,p.2)
def stepK (o:Option (List (List Srt))) (f:List Srt→List Node→Option (Nat × List Node)) (r:List Node):Option (Nat × List Node):=match o with
 | none=>none
 | some ks=>up (manyF f ks 0 r)
/-- A value of a type, taken of the parts: its depth, and what is left. lim: how many parts a list may have (none: those left). -/
def ofF (s:Sch) (lim:Option Nat):Nat→List Srt→List Node→Option (Nat × List Node)
 | 0,_,_=>none
 | _+1,[],_=>none
 | _+1,_::_,[]=>none
 | k+1,x::t,n::r =>
  if x.kind=1∨x.kind=2∨x.kind=3∨x.kind=4 then (if leaf x.kind n=true then some (1,r) else none)
  else stepK (kidsOf s (lim.getD r.length) x t n) (ofF s lim k) r
/-- The parts that so many wholes take. -/
def endL (N:Nat):Nat→List Node→Option (List Node)
 | 0,r=>some r
 | _+1,[]=>none
 | l+1,n::r=>if 0≤n.kids∧n.kids≤N then endL N (l+n.kids.toNat) r else none
def size (v:List Node):Nat:=v.length+(v.map (·.text.size)).sum
noncomputable def fits (s:Sch) (t:List Srt) (v:List Node):Nat :=
 if (check s).2≠0 then (check s).2 else if right s t=false then 131 else
 match ofF s none (v.length+1) t v with
 | none=>150
 | some p=>if p.2.length≠0 then 150 else if 12<p.1 then 151 else if 4096<size v then 3 else 0
def fieldL (N:Nat) (fn:ByteArray):List Fld→List Node→Option (List Node)
 | [],_=>none
 | f::fs,r=>match endL N 1 r with
  | none=>none
  | some r'=>if (f.name.toList==fn.toList)=true then some (r.take (r.length - r'.length)) else fieldL N fn fs r'
def nmd (rn:ByteArray):List Srt:=[⟨7,rn⟩]
noncomputable def field (s:Sch) (rn:ByteArray) (v:List Node) (fn:ByteArray):Option (List Node) :=
 match find s rn with
 | none=>none
 | some r=>if r.choice=true then none else if fits s (nmd rn) v≠0 then none else fieldL v.length fn r.fields (v.drop 1)
theorem endL_add (N:Nat):∀ (r:List Node) (a b:Nat),endL N (a+b) r=(endL N a r).bind (endL N b)
 | [],0,b=>by rw [Nat.zero_add];rfl
 | [],a+1,b=>by rw [show a+1+b=(a+b)+1 by omega];rfl
 | n::r,0,b=>by rw [Nat.zero_add];rfl
 | n::r,a+1,b=>by
  rw [show a+1+b=(a+b)+1 by omega]
  unfold endL
  split
  ·rw [show a+b+n.kids.toNat=(a+n.kids.toNat)+b by omega]
   exact endL_add N r _ b
  ·rfl
theorem endL_len {N:Nat}:∀ {r:List Node} {a:Nat} {r':List Node},endL N a r=some r'→a+r'.length≤r.length∧r'=r.drop (r.length - r'.length)
 | r,0,r',h=>by
  have:endL N 0 r=some r:=by cases r <;> rfl
  rw [this] at h
  injection h with h
  subst h
  exact ⟨by omega,by rw [Nat.sub_self];rfl⟩
 | [],a+1,r',h=>by cases h
 | n::r,a+1,r',h=>by
  unfold endL at h
  split at h
  ·obtain ⟨h1,h2⟩:=endL_len h
   rw [List.length_cons]
   refine ⟨by omega,?_⟩
   rw [show r.length+1 - r'.length=(r.length - r'.length)+1 by omega]
   exact h2
  ·cases h
theorem up_some {p:Option (Nat × List Node)} {d:Nat} {r:List Node} (h:up p=some (d,r)):∃ e,d=e+1∧p=some (e,r):=by
 unfold up at h
 cases p with
 | none=>cases h
 | some q =>
  obtain ⟨a,b⟩:=q
  simp only [Option.map_some] at h
  injection h with h
  injection h with h1 h2
  subst h1 h2
  exact ⟨a,rfl,rfl⟩
/-- What is taken: at least one part of each; an end of the parts is left, where the whole ends. -/
theorem many_len {N:Nat} {f:List Srt→List Node→Option (Nat × List Node)} (hf:∀ t r d r',r.length≤N→f t r=some (d,r')→1≤d∧r'.length+1≤r.length∧endL N 1 r=some r') :
  ∀ (ts:List (List Srt)) (d:Nat) (r:List Node) (e:Nat) (r':List Node),r.length≤N→manyF f ts d r=some (e,r')→d≤e∧r'.length+ts.length≤r.length∧endL N ts.length r=some r'
 | [],d,r,e,r',hN,h=>by
  injection h with h
  injection h with h1 h2
  subst h1 h2
  exact ⟨Nat.le_refl _,by simp,by cases r <;> rfl⟩
 | t::ts,d,r,e,r',hN,h=>by
  unfold manyF at h
  split at h
  ·cases h
  ·rename_i p hp
   obtain ⟨a,q⟩:=p
   obtain ⟨h1,h2,h3⟩:=hf t r a q hN hp
   obtain ⟨h4,h5,h6⟩:=many_len hf ts (max d a) q e r' (by omega:q.length≤N) h
   simp only [List.length_cons]
   refine ⟨by omega,by omega,?_⟩
   rw [show ts.length+1=1+ts.length by omega,endL_add,h3]
   exact h6
theorem kids_num {s:Sch} {lim:Nat} {x:Srt} {t:List Srt} {n:Node} {ks:List (List Srt)} (h:kidsOf s lim x t n=some ks):n.kids=ks.length:=by
 unfold kidsOf at h
 split at h
 ·unfold kidsWrap at h
  split at h
  ·rename_i h1
   injection h with h
   subst h
   rw [List.length_replicate]
   omega
  ·cases h
 ·unfold kidsRec at h
  split at h
  ·split at h
   ·rename_i h1
    injection h with h
    subst h
    rw [h1.2.2.1]
    rfl
   ·cases h
  ·split at h
   ·rename_i h1
    injection h with h
    subst h
    rw [h1.2.2.2,List.length_map]
   ·cases h
theorem leaf_kids {k:Nat} {n:Node} (h:leaf k n=true):n.kids=0:=by
 unfold leaf at h
 simp only [Bool.and_eq_true,beq_iff_eq] at h
 exact h.1.1.2
theorem stepK_some {o:Option (List (List Srt))} {f:List Srt→List Node→Option (Nat × List Node)} {r:List Node} {d:Nat} {r':List Node} (h:stepK o f r=some (d,r')):∃ ks e,o=some ks∧d=e+1∧manyF f ks 0 r=some (e,r'):=by
 unfold stepK at h
 split at h
 ·cases h
 ·rename_i ks
  obtain ⟨e,h1,h2⟩:=up_some h
  exact ⟨ks,e,rfl,h1,h2⟩
theorem of_len {s:Sch} {lim:Option Nat} {N:Nat}:∀ (k:Nat) (t:List Srt) (r:List Node) (d:Nat) (r':List Node),r.length≤N→ofF s lim k t r=some (d,r')→1≤d∧r'.length+1≤r.length∧endL N 1 r=some r'
 | 0,t,r,d,r',hN,h=>by unfold ofF at h;cases h
 | k+1,[],r,d,r',hN,h=>by unfold ofF at h;cases h
 | k+1,x::t,[],d,r',hN,h=>by unfold ofF at h;cases h
 | k+1,x::t,n::r,d,r',hN,h=>by
  simp only [List.length_cons] at hN ⊢
  unfold ofF at h
  split at h
  ·split at h
   ·rename_i hl
    injection h with h
    injection h with h1 h2
    subst h1 h2
    refine ⟨Nat.le_refl _,Nat.le_refl _,?_⟩
    unfold endL
    rw [leaf_kids hl,if_pos ⟨by omega,by omega⟩]
    cases r <;> rfl
   ·cases h
  ·obtain ⟨ks,e,hks,rfl,h2⟩:=stepK_some h
   obtain ⟨h3,h4,h5⟩:=many_len (N:=N) (of_len k) ks 0 r e r' (by omega) h2
   refine ⟨by omega,by omega,?_⟩
   have hn:=kids_num hks
   unfold endL
   rw [hn,if_pos ⟨by omega,by omega⟩,Nat.zero_add,Int.toNat_natCast]
   exact h5
theorem kids_lim (s:Sch) {r N:Nat} (hN:r≤N) (x:Srt) (t:List Srt) (n:Node):kidsOf s N x t n=kidsOf s r x t n∨(kidsOf s r x t n=none∧∃ ks,kidsOf s N x t n=some ks∧r<ks.length):=by
 unfold kidsOf
 by_cases h56:x.kind=5∨x.kind=6
 ·rw [if_pos h56,if_pos h56]
  unfold kidsWrap
  by_cases h6:x.kind=6
  ·rw [show wlim N x.kind=wlim r x.kind by unfold wlim;rw [if_pos h6,if_pos h6]]
   exact .inl rfl
  ·rw [show wlim N x.kind=N by unfold wlim;rw [if_neg h6],show wlim r x.kind=r by unfold wlim;rw [if_neg h6]]
   by_cases hc:n.kind=x.kind∧n.int=0∧n.text.toList.isEmpty=true∧0≤n.kids∧n.kids≤(N:Int)
   ·by_cases hr:n.kids≤(r:Int)
    ·rw [if_pos hc,if_pos ⟨hc.1,hc.2.1,hc.2.2.1,hc.2.2.2.1,hr⟩]
     exact .inl rfl
    ·rw [if_pos hc,if_neg (fun h=>hr h.2.2.2.2)]
     exact .inr ⟨rfl,_,rfl,by rw [List.length_replicate];omega⟩
   ·rw [if_neg hc,if_neg (fun h=>hc ⟨h.1,h.2.1,h.2.2.1,h.2.2.2.1,by omega⟩)]
    exact .inl rfl
 ·rw [if_neg h56,if_neg h56]
  exact .inl rfl
/-- A list of more parts than are left is none, whoever counts. -/
theorem of_lim {s:Sch} {N:Nat}:∀ (k:Nat) (t:List Srt) (r:List Node),r.length≤N→ofF s (some N) k t r=ofF s none k t r
 | 0,t,r,hN=>by unfold ofF;rfl
 | k+1,[],r,hN=>by unfold ofF;rfl
 | k+1,x::t,[],hN=>by unfold ofF;rfl
 | k+1,x::t,n::r,hN=>by
  simp only [List.length_cons] at hN
  have hm:∀ (ts:List (List Srt)) (d:Nat) (q:List Node),q.length≤N→manyF (ofF s (some N) k) ts d q=manyF (ofF s none k) ts d q:=fun ts=>by
   induction ts with
   | nil=>intros;rfl
   | cons t ts ih =>
    intro d q hq
    unfold manyF
    rw [of_lim k t q hq]
    cases hp:ofF s none k t q with
    | none=>rfl
    | some p =>
     obtain ⟨a,q'⟩:=p
     exact ih _ _ (by have:=(of_len (N:=N) k t q a q' hq hp).2.1;show q'.length≤N;omega)
  have hc:∀ o:Option (List (List Srt)),stepK o (ofF s (some N) k) r=stepK o (ofF s none k) r:=fun o=>by
   cases o with
   | none=>rfl
   | some ks =>
    show up (manyF (ofF s (some N) k) ks 0 r)=up (manyF (ofF s none k) ks 0 r)
    rw [hm ks 0 r (by omega)]
  unfold ofF
  split
  ·rfl
  ·simp only [Option.getD_some,Option.getD_none]
   rw [hc]
   rcases kids_lim s (show r.length≤N by omega) x t n with e | ⟨e1,ks,e2,hl⟩
   ·rw [e]
   ·rw [e1,e2]
    show up (manyF (ofF s none k) ks 0 r)=none
    cases hmm:manyF (ofF s none k) ks 0 r with
    | none=>rfl
    | some p =>
     obtain ⟨a,q⟩:=p
     have:=(many_len (N:=N) (of_len k) ks 0 r a q (by omega) hmm).2.1
     omega
end Vl
end Go.Proofs.YtjfdohhdkdjifaaGreatDoor
set_option linter.unusedVariables false
set_option linter.unusedSimpArgs false
namespace Go.Proofs.YtjfdohhdkdjifaaGreatDoor
open Go.RowKit Go.BigFrame
namespace Vl
open Go.Proofs.YtjfdohhdkdjifaaGreatDoor.Id Go.Proofs.YtjfdohhdkdjifaaGreatDoor.Chk Go.Proofs.YtjfdohhdkdjifaaGreatDoor.Prn
theorem typeP_empty (t:List Srt):(typeP t).toList.isEmpty=!(decide (t.length≤12)&&okP t):=by
 unfold typeP
 by_cases h:t.length≤12∧okP t=true
 ·rw [if_pos h,decide_eq_true h.1,h.2]
  cases he:(jn (t.map sortW)).toList.isEmpty
  ·rfl
  ·exfalso
   have h1:=type_text h.2 h.1
   rw [empty_of he] at h1
   have h2:(Id.type (⟨#[]⟩:ByteArray)).2.2=120:=by decide +kernel
   rw [h1] at h2
   cases h2
 ·rw [if_neg h]
  have:(decide (t.length≤12)&&okP t)=false:=by
   rw [Bool.eq_false_iff]
   intro h2
   rw [Bool.and_eq_true,decide_eq_true_eq] at h2
   exact h h2
  rw [this]
  decide +kernel
theorem name_size {s:ByteArray} (h:Tk.isName s=true):s.size≤32:=by
 rcases Nat.lt_or_ge 32 s.size with h1 | h1
 ·have:=Tk.isName_short (.inr h1)
  rw [this] at h
  cases h
 ·exact h1
/-- The last sort's name is there. -/
def lastOk (s:Sch) (t:List Srt):Bool:=match t.getLast? with
 | none=>false
 | some x=>x.kind != 7||(find s x.name).isSome
theorem find_name {s:Sch} {n:ByteArray} {r:Rec} (h:find s n=some r):r∈s.records∧r.name=n:=by
 unfold find at h
 refine ⟨List.mem_of_find?_eq_some h,Tk.text_eq ?_⟩
 have:=List.find?_some h
 simpa using this
theorem fin_last {s:Sch} (h:Right s) (x:Srt):fin s x=(finP x&&(x.kind != 7||(find s x.name).isSome)):=by
 unfold fin finP
 by_cases h1:x.kind=1∨x.kind=2∨x.kind=3∨x.kind=4
 ·rw [if_pos h1,if_pos h1,show (x.kind != 7)=true by rw [bne_iff_ne];omega]
  simp
 ·rw [if_neg h1,if_neg h1]
  by_cases h7:x.kind=7
  ·rw [if_pos h7,if_pos h7,show (x.kind != 7)=false by rw [h7];rfl,Bool.false_or]
   cases hf:find s x.name with
   | none=>simp
   | some r =>
    obtain ⟨hr,hn⟩:=find_name hf
    have:=(ok_of_right h).rn r hr
    rw [hn] at this
    rw [this]
    rfl
  ·rw [if_neg h7,if_neg h7,Bool.false_and]
theorem okT_last {s:Sch} (h:Right s):∀ t:List Srt,okT s t=(okP t&&lastOk s t)
 | []=>rfl
 | [x]=>fin_last h x
 | x::y::l=>by
  show (mid x&&okT s (y::l))=(mid x&&okP (y::l)&&lastOk s (x::y::l))
  rw [okT_last h (y::l),Bool.and_assoc]
  rfl
theorem right_typeP {s:Sch} (h:Right s) (t:List Srt):right s t=(!(typeP t).toList.isEmpty&&lastOk s t):=by
 rw [typeP_empty,Bool.not_not]
 unfold right
 rw [okT_last h,Bool.and_assoc]
/-- The last record of a name. -/
def lastR (rs:List Rec) (n:ByteArray):Rec:=(rs.reverse.find? fun r=>r.name.toList==n.toList).getD recZ
theorem lastR_snoc (rs:List Rec) (r:Rec) (n:ByteArray):lastR (rs++[r]) n=if (r.name.toList==n.toList)=true then r else lastR rs n:=by
 unfold lastR
 rw [List.reverse_append,List.reverse_singleton,List.singleton_append,List.find?_cons]
 cases h:(r.name.toList==n.toList) <;> rfl
theorem lastR_find {s:Sch} (h:Right s) (n:ByteArray):lastR s.records n=(find s n).getD recZ:=by
 unfold lastR
 cases hf:s.records.reverse.find? (fun r=>r.name.toList==n.toList) with
 | some r =>
  have hm:=List.mem_reverse.1 (List.mem_of_find?_eq_some hf)
  have hn:r.name=n:=Tk.text_eq (by simpa using List.find?_some hf)
  have:=right_find h hm
  rw [hn] at this
  rw [this]
 | none =>
  have:find s n=none:=by
   unfold find
   rw [List.find?_eq_none] at hf ⊢
   exact fun x hx=>hf x (List.mem_reverse.2 hx)
  rw [this]
/-- Types of a right schema's fields, and types within a type, are right. -/
theorem okT_tail {s:Sch} {x:Srt} {t:List Srt} (h:okT s (x::t)=true) (hx:x.kind=5∨x.kind=6):okT s t=true:=by
 cases t with
 | nil =>
  have h:fin s x=true:=h
  unfold fin at h
  rw [if_neg (by omega),if_neg (by omega)] at h
  cases h
 | cons y l =>
  have h:(mid x&&okT s (y::l))=true:=h
  rw [Bool.and_eq_true] at h
  exact h.2
theorem okT_kind {s:Sch} {x:Srt} {t:List Srt} (h:okT s (x::t)=true):(x.kind=1∨x.kind=2∨x.kind=3∨x.kind=4)∨x.kind=5∨x.kind=6∨(x.kind=7∧t=[]∧(find s x.name).isSome=true):=by
 cases t with
 | nil =>
  have h:fin s x=true:=h
  unfold fin at h
  by_cases h1:x.kind=1∨x.kind=2∨x.kind=3∨x.kind=4
  ·exact .inl h1
  ·rw [if_neg h1] at h
   by_cases h7:x.kind=7
   ·rw [if_pos h7] at h
    exact .inr (.inr (.inr ⟨h7,rfl,h⟩))
   ·rw [if_neg h7] at h
    cases h
 | cons y l =>
  have h:(mid x&&okT s (y::l))=true:=h
  rw [Bool.and_eq_true] at h
  have:=h.1
  unfold mid at this
  simp only [Bool.and_eq_true,Bool.or_eq_true,beq_iff_eq] at this
  omega
theorem okT_ne {s:Sch} {t:List Srt} (h:okT s t=true):t≠[]:=fun e=>by subst e;cases h
theorem right_okT {s:Sch} {t:List Srt} (h:right s t=true):okT s t=true∧t.length≤12:=by
 unfold right at h
 rw [Bool.and_eq_true,decide_eq_true_eq] at h
 exact ⟨h.2,h.1⟩
theorem field_right {s:Sch} (h:Right s) {r:Rec} (hr:r∈s.records) {f:Fld} (hf:f∈r.fields):right s f.type=true:=by
 have ht:=(right_iff.1 h).2.2.2.1
 exact ht (right s f.type,Chk.part r.name f.name) (List.mem_append_left _ (List.mem_flatMap.2 ⟨r,hr,List.mem_flatMap.2 ⟨f,hf,by simp [typesF]⟩⟩))
theorem fields_few {s:Sch} (h:Right s) {r:Rec} (hr:r∈s.records):r.fields.length≤16:=by
 have ht:=(right_iff.1 h).2.1
 have:=ht (decide ((r.fields.length:Int)≤16),r.name) (List.mem_cons_of_mem _ (List.mem_append_left _ (List.mem_flatMap.2 ⟨r,hr,by simp [countsR]⟩)))
 rw [decide_eq_true_eq] at this
 omega
def docV (v:List Node):Option (Nat × List Node)→Int × Nat
 | none=>(-1,0)
 | some p=>((v.length:Int) - p.2.length,p.1)
def deep:Option (Nat × List Node)→Nat
 | none=>0
 | some p=>p.1
end Vl
end Go.Proofs.YtjfdohhdkdjifaaGreatDoor
set_option linter.unusedVariables false
set_option linter.unusedSimpArgs false
namespace Go.Proofs.YtjfdohhdkdjifaaGreatDoor
open Go.RowKit Go.BigFrame
namespace Vl
open Go.Proofs.YtjfdohhdkdjifaaGreatDoor.Id Go.Proofs.YtjfdohhdkdjifaaGreatDoor.Chk Go.Proofs.YtjfdohhdkdjifaaGreatDoor.Prn
theorem fits_ok {s:Sch} {t:List Srt} {v:List Node} (h:fits s t v=0):Right s∧right s t=true∧∃ d,ofF s none (v.length+1) t v=some (d,[])∧d≤12∧size v≤4096:=by
 unfold fits at h
 split at h
 ·rename_i h1
  exact absurd h h1
 ·rename_i h1
  split at h
  ·cases h
  ·rename_i h2
   refine ⟨check_ok (by omega),by simpa using h2,?_⟩
   split at h
   ·cases h
   ·rename_i p hp
    obtain ⟨d,r⟩:=p
    split at h
    ·cases h
    ·rename_i h3
     split at h
     ·cases h
     ·rename_i h4
      split at h
      ·cases h
      ·rename_i h5
       simp only at h3 h4
       obtain rfl:r=[]:=List.length_eq_zero_iff.1 (by omega)
       exact ⟨d,hp,by omega,by omega⟩
end Vl
end Go.Proofs.YtjfdohhdkdjifaaGreatDoor
set_option linter.unusedVariables false
set_option linter.unusedSimpArgs false
namespace Go.Proofs.YtjfdohhdkdjifaaGreatDoor
open Go.RowKit Go.BigFrame
namespace Vl
open Go.Proofs.YtjfdohhdkdjifaaGreatDoor.Id Go.Proofs.YtjfdohhdkdjifaaGreatDoor.Chk Go.Proofs.YtjfdohhdkdjifaaGreatDoor.Prn
def lvQ (p:List Srt→Bool) (r:Rec):Bool:=if r.choice then r.fields.any (fun f=>p f.type) else r.fields.all (fun f=>p f.type)
/-- Is there a value of a type that is at most so deep? -/
def lvT (s:Sch):Nat→List Srt→Bool
 | 0,_=>false
 | _+1,[]=>false
 | d+1,x::_=>if x.kind=7 then (match find s x.name with | none=>false | some r=>lvQ (lvT s d) r) else true
/-- Depths as they are known: of each name, 0 if none is. -/
abbrev Kn:=ByteArray→Nat
def dpt (kn:Kn) (t:List Srt):Nat:=match t with
 | []=>0
 | x::_=>if x.kind=7 then kn x.name else 1
structure LstS where
 best:Nat
 worst:Nat
 miss:Bool
def lstStep (kn:Kn) (a:LstS) (f:Fld):LstS :=
 ⟨if 0<dpt kn f.type∧(a.best=0∨dpt kn f.type<a.best) then dpt kn f.type else a.best,max a.worst (dpt kn f.type),a.miss||dpt kn f.type==0⟩
def lstF (kn:Kn) (r:Rec):LstS:=r.fields.foldl (lstStep kn) ⟨0,0,false⟩
def lstD (kn:Kn) (r:Rec):Nat × Bool:=if r.choice then ((lstF kn r).best+1,decide (0<(lstF kn r).best)) else ((lstF kn r).worst+1,!(lstF kn r).miss)
/-- What the fold finds. -/
theorem lst_fold (kn:Kn):∀ (l:List Fld) (a:LstS),
  (∀ d,(l.foldl (lstStep kn) a).worst≤d↔a.worst≤d∧∀ f∈l,dpt kn f.type≤d) ∧
  ((l.foldl (lstStep kn) a).miss=true↔a.miss=true∨∃ f∈l,dpt kn f.type=0) ∧
  ((l.foldl (lstStep kn) a).best=0↔a.best=0∧∀ f∈l,dpt kn f.type=0) ∧
  (∀ f∈l,dpt kn f.type≠0→(l.foldl (lstStep kn) a).best≤dpt kn f.type) ∧
  (a.best≠0→(l.foldl (lstStep kn) a).best≤a.best) ∧
  ((l.foldl (lstStep kn) a).best≠a.best→∃ f∈l,dpt kn f.type=(l.foldl (lstStep kn) a).best)
 | [],a=>by simp
 | f::l,a=>by
  obtain ⟨h1,h2,h3,h4,h5,h6⟩:=lst_fold kn l (lstStep kn a f)
  rw [List.foldl_cons]
  have hb:(lstStep kn a f).best=if 0<dpt kn f.type∧(a.best=0∨dpt kn f.type<a.best) then dpt kn f.type else a.best:=rfl
  have hw:(lstStep kn a f).worst=max a.worst (dpt kn f.type):=rfl
  have hm:(lstStep kn a f).miss=(a.miss||dpt kn f.type==0):=rfl
  generalize (l.foldl (lstStep kn) (lstStep kn a f))=b at *
  generalize lstStep kn a f=c at *
  refine ⟨fun d=>?_,?_,?_,?_,?_,?_⟩
  ·rw [h1 d,hw]
   simp only [List.mem_cons,forall_eq_or_imp]
   constructor
   ·rintro ⟨a1,a2⟩;exact ⟨by omega,by omega,a2⟩
   ·rintro ⟨a1,a2,a3⟩;exact ⟨by omega,a3⟩
  ·rw [h2,hm]
   simp only [List.mem_cons,exists_eq_or_imp,Bool.or_eq_true,beq_iff_eq,or_assoc]
  ·rw [h3,hb]
   simp only [List.mem_cons,forall_eq_or_imp]
   split <;> constructor <;> (rintro ⟨a1,a2⟩) <;> first | (exact ⟨by omega,by omega,a2⟩) | (exact ⟨by omega,a2.2⟩) | omega
  ·intro g hg hd
   rcases List.mem_cons.1 hg with rfl | hg
   ·by_cases hc:c.best=0
    ·rw [hb] at hc
     split at hc <;> omega
    ·have:=h5 hc
     rw [hb] at this
     split at this <;> omega
   ·exact h4 g hg hd
  ·intro ha
   by_cases hc:c.best=0
   ·rw [hb] at hc
    split at hc <;> omega
   ·have:=h5 hc
    rw [hb] at this
    split at this <;> omega
  ·intro hne
   by_cases hc:b.best=c.best
   ·refine ⟨f,by simp,?_⟩
    rw [hc,hb]
    rw [hc,hb] at hne
    split at hne
    ·rename_i h;rw [if_pos h]
    ·exact absurd rfl hne
   ·obtain ⟨g,hg,he⟩:=h6 hc
    exact ⟨g,by simp [hg],he⟩
/-- The least depths. -/
def Min (s:Sch) (kn:Kn):Prop:=∀ n,(kn n≠0→lvT s (kn n) [⟨7,n⟩]=true)∧∀ d,lvT s d [⟨7,n⟩]=true→kn n≠0∧kn n≤d
def Sd (s:Sch) (kn:Kn):Prop:=∀ n,kn n≠0→lvT s (kn n) [⟨7,n⟩]=true
theorem lvT_head {s:Sch} {d:Nat} {x:Srt} {t:List Srt}:lvT s d (x::t)=lvT s d [x]:=by
 cases d with
 | zero=>rfl
 | succ d=>rfl
theorem lvT_name {s:Sch} {d:Nat} {x:Srt} (h:x.kind=7):lvT s d [x]=lvT s d [⟨7,x.name⟩]:=by
 obtain ⟨k,n⟩:=x
 simp only at h
 subst h
 rfl
theorem Sd.dpt {s:Sch} {kn:Kn} (h:Sd s kn) {t:List Srt} (hd:dpt kn t≠0):lvT s (dpt kn t) t=true:=by
 cases t with
 | nil=>exact absurd rfl hd
 | cons x t =>
  rw [lvT_head]
  unfold Vl.dpt at hd ⊢
  simp only at hd ⊢
  by_cases h7:x.kind=7
  ·rw [if_pos h7] at hd ⊢
   rw [lvT_name h7]
   exact h _ hd
  ·rw [if_neg h7]
   unfold lvT
   rw [if_neg h7]
theorem Min.dpt {s:Sch} {kn:Kn} (h:Min s kn) {t:List Srt} {d:Nat} (hd:lvT s d t=true):dpt kn t≠0∧dpt kn t≤d:=by
 cases t with
 | nil=>cases d <;> (unfold lvT at hd;cases hd)
 | cons x t =>
  rw [lvT_head] at hd
  unfold Vl.dpt
  simp only
  by_cases h7:x.kind=7
  ·rw [if_pos h7]
   rw [lvT_name h7] at hd
   exact (h _).2 d hd
  ·rw [if_neg h7]
   cases d with
   | zero=>cases hd
   | succ d=>exact ⟨by omega,by omega⟩
/-- Where nothing changes any more, the depths are the least. -/
def Stop (s:Sch) (kn:Kn):Prop:=∀ r∈s.records,(lstD kn r).2=true→kn r.name≠0∧kn r.name≤(lstD kn r).1
theorem Stop.le {s:Sch} {kn:Kn} (h:Stop s kn):∀ (d:Nat) (t:List Srt),lvT s d t=true→dpt kn t≠0∧dpt kn t≤d
 | 0,t,hl=>by unfold lvT at hl;cases hl
 | d+1,[],hl=>by unfold lvT at hl;cases hl
 | d+1,x::t,hl=>by
  unfold lvT at hl
  unfold dpt
  simp only
  split at hl
  ·rename_i h7
   rw [if_pos h7]
   split at hl
   ·cases hl
   ·rename_i r hr
    obtain ⟨hm,hn⟩:=find_name hr
    obtain ⟨h1,h2,h3,h4,h5,h6⟩:=lst_fold kn r.fields ⟨0,0,false⟩
    have e:r.fields.foldl (lstStep kn) ⟨0,0,false⟩=lstF kn r:=rfl
    rw [e] at h1 h2 h3 h4 h5 h6
    have hs:=h r hm
    rw [hn] at hs
    unfold lstD at hs
    unfold lvQ at hl
    cases hc:r.choice
    ·rw [hc] at hs hl
     simp only [Bool.false_eq_true,if_false] at hs hl
     have ha:=List.all_eq_true.1 hl
     have hmiss:(lstF kn r).miss=false:=by
      rw [Bool.eq_false_iff]
      intro hmi
      rcases h2.1 hmi with e | ⟨f,hf,e⟩
      ·cases e
      ·exact (Stop.le h d f.type (ha f hf)).1 e
     obtain ⟨a1,a2⟩:=hs (by rw [hmiss];rfl)
     refine ⟨a1,Nat.le_trans a2 ?_⟩
     have:=(h1 d).2 ⟨Nat.zero_le _,fun f hf=>(Stop.le h d f.type (ha f hf)).2⟩
     omega
    ·rw [hc] at hs hl
     simp only [if_true,decide_eq_true_eq] at hs hl
     obtain ⟨f,hf,hp⟩:=List.any_eq_true.1 hl
     obtain ⟨b1,b2⟩:=Stop.le h d f.type hp
     have hb:(lstF kn r).best≠0:=fun e=>b1 ((h3.1 e).2 f hf)
     have hb2:=h4 f hf b1
     obtain ⟨a1,a2⟩:=hs (by omega)
     exact ⟨a1,by omega⟩
  ·rename_i h7
   rw [if_neg h7]
   exact ⟨by omega,by omega⟩
theorem Stop.min {s:Sch} {kn:Kn} (h:Stop s kn) (hs:Sd s kn):Min s kn:=fun n=>⟨hs n,fun d hd=>by
 have:=h.le d _ hd
 exact this⟩
end Vl
end Go.Proofs.YtjfdohhdkdjifaaGreatDoor
set_option linter.unusedVariables false
set_option linter.unusedSimpArgs false
namespace Go.Proofs.YtjfdohhdkdjifaaGreatDoor
open Go.RowKit Go.BigFrame
namespace Vl
open Go.Proofs.YtjfdohhdkdjifaaGreatDoor.Id Go.Proofs.YtjfdohhdkdjifaaGreatDoor.Chk Go.Proofs.YtjfdohhdkdjifaaGreatDoor.Prn
end Vl
end Go.Proofs.YtjfdohhdkdjifaaGreatDoor
set_option linter.unusedVariables false
namespace Go.Proofs.YtjfdohhdkdjifaaGreatDoor
namespace Ev
/-- What the first bytes of a number tell. -/
def acc (l:List UInt8):Nat→Nat
 | 0=>0
 | i+1=>acc l i ||| ((l.getD i 0).toNat % 128 * 2 ^ (7 * i) % 18446744073709551616)
theorem acc_lt (l:List UInt8):∀ i,acc l i<18446744073709551616
 | 0=>by simp [acc]
 | i+1=>Nat.or_lt_two_pow (n:=64) (acc_lt l i) (Nat.mod_lt _ (by decide))
theorem or_join {a b:Nat} (i:Nat) (ha:a<2 ^ i) (hb:b % 2 ^ i=0):a ||| b=a+b:=by
 have h2:2 ^ i * (b / 2 ^ i)=b:=by have:=Nat.div_add_mod b (2 ^ i);omega
 have h:=Nat.two_pow_add_eq_or_of_lt ha (b / 2 ^ i)
 rw [Nat.or_comm,←h2,←h,Nat.add_comm]
theorem pow128 (i:Nat):(2:Nat) ^ (7 * i)=128 ^ i:=Nat.pow_mul 2 7 i
/-- A number of the first bytes, the lowest one first. -/
def lit (l:List UInt8):Nat→Nat
 | 0=>0
 | i+1=>lit l i+(l.getD i 0).toNat * 2 ^ (8 * i)
end Ev
end Go.Proofs.YtjfdohhdkdjifaaGreatDoor
set_option linter.unusedVariables false
set_option linter.unusedSimpArgs false
namespace Go.Proofs.YtjfdohhdkdjifaaGreatDoor
namespace Cd
open Go.Proofs.YtjfdohhdkdjifaaGreatDoor.Ev
/-- A number at the beginning of bytes; false: they are too few, true: it is none. -/
def nmF (l:List UInt8):Nat→Nat→Except Bool (Nat × Nat)
 | 0,_=>.error true
 | g+1,i=>if i<l.length then (if i=9∧1<(l.getD i 0).toNat then .error true else if (l.getD i 0).toNat<128 then (if (l.getD i 0).toNat=0∧0<i then .error true else .ok (acc l (i+1),i+1)) else nmF l g (i+1)) else .error false
def num (b:List UInt8) (p:Nat):Except (Nat × Nat) (Nat × Nat):=match nmF (b.drop p) 10 0 with
 | .ok q=>.ok (q.1,p+q.2)
 | .error true=>.error (p,162)
 | .error false=>.error (b.length,160)
def bit (b:List UInt8) (p:Nat):Except (Nat × Nat) (Nat × Nat):=if p<b.length then (if 1<(b.getD p 0).toNat then .error (p,162) else .ok ((b.getD p 0).toNat,p+1)) else .error (b.length,160)
theorem acc_next {l:List UInt8} {i:Nat} (h9:i≤9) (ha:acc l i<128 ^ i) (hc:(l.getD i 0).toNat % 128<128) (h1:i=9→(l.getD i 0).toNat % 128<2):acc l (i+1)=acc l i+(l.getD i 0).toNat % 128 * 128 ^ i:=by
 have hle:128 ^ i≤128 ^ 9:=Nat.pow_le_pow_right (by decide) h9
 have hp9:(128:Nat) ^ 9=9223372036854775808:=by decide
 have hlt:(l.getD i 0).toNat % 128 * 128 ^ i<18446744073709551616:=by
  by_cases h:i=9
  ·have:=h1 h
   have h2:(l.getD i 0).toNat % 128 * 128 ^ i≤1 * 128 ^ i:=Nat.mul_le_mul_right _ (by omega)
   omega
  ·have hps:128 ^ (i+1)=128 ^ i * 128:=Nat.pow_succ ..
   have hle2:128 ^ (i+1)≤128 ^ 9:=Nat.pow_le_pow_right (by decide) (by omega)
   have h2:(l.getD i 0).toNat % 128 * 128 ^ i≤127 * 128 ^ i:=Nat.mul_le_mul_right _ (by omega)
   omega
 simp only [acc]
 rw [pow128,Nat.mod_eq_of_lt hlt,or_join (7 * i) (by rw [pow128];exact ha) (by rw [pow128];exact Nat.mul_mod_left _ _)]
theorem nmF_ok (l:List UInt8):∀ (g i u j:Nat),g+i=10→acc l i<128 ^ i→nmF l g i=.ok (u,j) →
  ∃ y,(0<i→y≠0)∧u=acc l i+128 ^ i * y∧y<2 * 128 ^ (9 - i)∧l.drop i=varF (9 - i) y++l.drop j∧i<j∧j≤l.length
 | 0,i,u,j,hg,ha,h=>by unfold nmF at h;cases h
 | g+1,i,u,j,hg,ha,h=>by
  unfold nmF at h
  split at h
  ·rename_i hi
   split at h
   ·cases h
   ·rename_i h9
    have hd:l.drop i=(l.getD i 0)::l.drop (i+1):=by
     rw [List.drop_eq_getElem_cons hi,List.getD_eq_getElem?_getD,List.getElem?_eq_getElem hi,Option.getD_some]
    have hcb:(l.getD i 0).toNat<256:=UInt8.toNat_lt _
    split at h
    ·rename_i hc
     split at h
     ·cases h
     ·rename_i h0
      injection h with h
      injection h with h1 h2
      subst h1 h2
      have hm:(l.getD i 0).toNat % 128=(l.getD i 0).toNat:=Nat.mod_eq_of_lt hc
      refine ⟨(l.getD i 0).toNat,fun hi0 h=>h0 ⟨h,hi0⟩,?_,?_,?_,Nat.lt_succ_self _,hi⟩
      ·rw [acc_next (by omega) ha (by omega) (fun h=>by omega),hm,Nat.mul_comm]
      ·by_cases hi9:i=9
       ·have h2:¬1<(l.getD i 0).toNat:=fun h=>h9 ⟨hi9,h⟩
        rw [hi9] at h2 ⊢
        show _<2 * 128 ^ 0
        omega
       ·have:128 ^ 1≤128 ^ (9 - i):=Nat.pow_le_pow_right (by decide) (by omega)
        omega
      ·rw [hd]
       have hv:varF (9 - i) (l.getD i 0).toNat=[UInt8.ofNat (l.getD i 0).toNat]:=by
        cases h9i:9 - i with
        | zero=>rfl
        | succ m=>unfold varF;rw [if_pos hc]
       rw [hv,UInt8.ofNat_toNat,List.singleton_append]
    ·rename_i hc
     have hi8:i≤8:=by
      rcases Nat.lt_or_ge i 9 with h' | h'
      ·omega
      ·exact absurd ⟨by omega,by omega⟩ h9
     have ha':=acc_next (by omega) ha (Nat.mod_lt _ (by decide)) (fun h=>by omega)
     have hps:128 ^ (i+1)=128 ^ i * 128:=Nat.pow_succ ..
     have hb:(l.getD i 0).toNat % 128 * 128 ^ i≤127 * 128 ^ i:=Nat.mul_le_mul_right _ (by omega)
     obtain ⟨y,y0,hu,hy,hl,hj,hjl⟩:=nmF_ok l g (i+1) u j (by omega) (by omega) h
     have y0:=y0 (by omega)
     obtain ⟨c,hcn⟩:∃ c,(l.getD i 0).toNat=c+128:=⟨(l.getD i 0).toNat - 128,by omega⟩
     have hcm:(l.getD i 0).toNat % 128=c:=by omega
     refine ⟨c+128 * y,fun _=>by omega,?_,?_,?_,by omega,hjl⟩
     ·rw [hu,ha',hcm,hps,Nat.mul_add,Nat.mul_comm c,Nat.mul_assoc,Nat.add_assoc]
     ·have:128 ^ (9 - i)=128 ^ (9 - (i+1)) * 128:=by rw [←Nat.pow_succ];congr 1;omega
      omega
     ·rw [hd,show 9 - i=(9 - (i+1))+1 by omega]
      unfold varF
      rw [if_neg (by omega),show (c+128 * y) % 128+128=(l.getD i 0).toNat by omega,show (c+128 * y) / 128=y by omega,UInt8.ofNat_toNat,List.cons_append,←hl]
  ·cases h
theorem num_ok {b:List UInt8} {p u q:Nat} (h:num b p=.ok (u,q)):u<18446744073709551616∧b.drop p=var u++b.drop q∧p<q∧q≤b.length:=by
 unfold num at h
 split at h
 ·rename_i x hx
  injection h with h
  injection h with h1 h2
  obtain ⟨y,-,hu,hy,hl,hj,hjl⟩:=nmF_ok (b.drop p) 10 0 x.1 x.2 rfl (by simp [acc]) hx
  have hacc:acc (b.drop p) 0=0:=rfl
  rw [hacc] at hu
  simp only [Nat.pow_zero,Nat.one_mul,Nat.zero_add,Nat.sub_zero,List.drop_zero,List.drop_drop] at hu hl hy
  rw [List.length_drop] at hjl
  subst h2
  rw [←h1,hu]
  exact ⟨by simpa using hy,hl,by omega,by omega⟩
 ·cases h
 ·cases h
theorem bit_ok {b:List UInt8} {p u q:Nat} (h:bit b p=.ok (u,q)):u≤1∧b.drop p=UInt8.ofNat u::b.drop q∧q=p+1∧q≤b.length:=by
 unfold bit at h
 split at h
 ·rename_i hp
  split at h
  ·cases h
  ·rename_i h1
   injection h with h
   injection h with e1 e2
   subst e1 e2
   refine ⟨by omega,?_,rfl,hp⟩
   rw [UInt8.ofNat_toNat,List.drop_eq_getElem_cons hp,List.getD_eq_getElem?_getD,List.getElem?_eq_getElem hp,Option.getD_some]
 ·cases h
end Cd
end Go.Proofs.YtjfdohhdkdjifaaGreatDoor
set_option linter.unusedVariables false
set_option linter.unusedSimpArgs false
namespace Go.Proofs.YtjfdohhdkdjifaaGreatDoor
open Go.RowKit Go.BigFrame
namespace Cd
open Go.Proofs.YtjfdohhdkdjifaaGreatDoor.Id Go.Proofs.YtjfdohhdkdjifaaGreatDoor.Chk Go.Proofs.YtjfdohhdkdjifaaGreatDoor.Vl Go.Proofs.YtjfdohhdkdjifaaGreatDoor.Ev
def E0:ByteArray:=⟨#[]⟩
/-- A signed number as one without a sign, and back. -/
def zz (n:Int):Nat:=if 0≤n then 2 * n.toNat else 2 * (-(n+1)).toNat+1
def un (u:Nat):Int:=if u % 2=0 then ((u / 2:Nat):Int) else -((u / 2:Nat):Int) - 1
theorem zz_lt {n:Int} (h1:-9223372036854775808≤n) (h2:n≤9223372036854775807):zz n<18446744073709551616:=by
 unfold zz
 split <;> omega
/-- A part's numbers are Go's. -/
structure OkN (n:Vl.Node):Prop where
 lo:-9223372036854775808≤n.int
 hi:n.int≤9223372036854775807
 tx:n.text.size≤9223372036854775807
def encN (n:Vl.Node):List UInt8 :=
 if n.kind=2 then [UInt8.ofNat n.int.toNat] else if n.kind=3 then var (zz n.int) else if n.kind=4 then var n.text.size++n.text.data.toList
 else if n.kind=5 then var n.kids.toNat else if n.kind=6 then [UInt8.ofNat n.kids.toNat] else if n.kind=8 then var n.int.toNat else []
def encs (v:List Vl.Node):List UInt8:=v.flatMap encN
theorem encs_app (a b:List Vl.Node):encs (a++b)=encs a++encs b:=List.flatMap_append
structure S where
 at_:Nat
 v:List Vl.Node
 sz:Nat
def S.put (x:S) (p:Nat) (n:Vl.Node) (z:Nat):S:=⟨p,x.v++[n],x.sz+z⟩
def S.inc (x:S):S:=⟨x.at_,x.v,x.sz+1⟩
abbrev Rs (α:Type):=Except (Nat × Nat) α
def cutT (b:List UInt8) (p n:Nat):ByteArray:=⟨((b.drop p).take n).toArray⟩
/-- A part without others; its own place is counted already. -/
def decT (b:List UInt8) (x:S) (q:Nat × Nat):Rs S:=if 4096<x.sz+q.1 then .error (x.at_,3) else if b.length<q.2+q.1 then .error (b.length,160) else .ok (x.put (q.2+q.1) ⟨4,0,cutT b q.2 q.1,0⟩ q.1)
def decL (b:List UInt8) (k:Nat) (x:S):Rs S :=
 if k=1 then .ok (x.put x.at_ ⟨1,0,E0,0⟩ 0)
 else if k=2 then (match bit b x.at_ with
  | .error e=>.error e
  | .ok q=>.ok (x.put q.2 ⟨2,q.1,E0,0⟩ 0))
 else if k=3 then (match num b x.at_ with
  | .error e=>.error e
  | .ok q=>.ok (x.put q.2 ⟨3,un q.1,E0,0⟩ 0))
 else (match num b x.at_ with
  | .error e=>.error e
  | .ok q=>decT b x q)
/-- A part with others: their types. -/
def decC (r:Rec) (b:List UInt8) (x:S):Rs (List (List Srt) × S):=match num b x.at_ with
 | .error e=>.error e
 | .ok q=>if r.fields.length≤q.1 then .error (x.at_,162) else .ok ([(r.fields.map (·.type)).getD q.1 []],x.put q.2 ⟨8,q.1,E0,1⟩ 0)
def decH (s:Sch) (b:List UInt8) (c:Srt) (t:List Srt) (x:S):Rs (List (List Srt) × S) :=
 if c.kind=5 then (match num b x.at_ with
  | .error e=>.error e
  | .ok q=>if 4096<q.1 then .error (x.at_,3) else .ok (List.replicate q.1 t,x.put q.2 ⟨5,0,E0,q.1⟩ 0))
 else if c.kind=6 then (match bit b x.at_ with
  | .error e=>.error e
  | .ok q=>.ok (List.replicate q.1 t,x.put q.2 ⟨6,0,E0,q.1⟩ 0))
 else if ((find s c.name).getD recZ).choice=true then decC ((find s c.name).getD recZ) b x
 else .ok (((find s c.name).getD recZ).fields.map (·.type),x.put x.at_ ⟨7,0,E0,((find s c.name).getD recZ).fields.length⟩ 0)
def manyD (f:List Srt→S→Rs S):List (List Srt)→S→Rs S
 | [],x=>.ok x
 | t::ts,x=>match f t x with
  | .error e=>.error e
  | .ok y=>manyD f ts y
def goD (f:List Srt→S→Rs S) (o:Rs (List (List Srt) × S)):Rs S:=match o with
 | .error e=>.error e
 | .ok p=>manyD f p.1 p.2
def isLeaf (k:Nat):Prop:=k=1∨k=2∨k=3∨k=4
instance (k:Nat):Decidable (isLeaf k):=by unfold isLeaf;infer_instance
def full (x:S):Prop:=4096≤x.v.length∨4096≤x.sz
instance (x:S):Decidable (full x):=by unfold full;infer_instance
/-- The value of a type, read; so many parts more may lie one within the other. -/
def decF (s:Sch) (b:List UInt8):Nat→List Srt→S→Rs S
 | 0,_,x=>.error (x.at_,151)
 | _+1,[],x=>.error (x.at_,162)
 | k+1,c::t,x=>if full x then .error (x.at_,3) else if isLeaf c.kind then decL b c.kind x.inc else goD (decF s b k) (decH s b c t x.inc)
theorem size_app (a b:List Vl.Node):size (a++b)=size a+size b:=by
 unfold size
 rw [List.length_append,List.map_append,List.sum_append]
 omega
/-- What a reading has come to. -/
structure Got (b:List UInt8) (x y:S) (m:List Vl.Node):Prop where
 v:y.v=x.v++m
 bs:b.drop x.at_=encs m++b.drop y.at_
 le:x.at_≤y.at_
 lim:y.at_≤b.length
 sz:y.sz=x.sz+size m
 ok:∀ n∈m,OkN n
theorem Got.trans {b:List UInt8} {x y z:S} {m m':List Vl.Node} (h:Got b x y m) (k:Got b y z m'):Got b x z (m++m') :=
 ⟨by rw [k.v,h.v,List.append_assoc],by rw [h.bs,k.bs,encs_app,List.append_assoc],Nat.le_trans h.le k.le,k.lim,by rw [k.sz,h.sz,size_app];omega,fun n hn=>by rcases List.mem_append.1 hn with h1 | h1;exact h.ok n h1;exact k.ok n h1⟩
end Cd
end Go.Proofs.YtjfdohhdkdjifaaGreatDoor
