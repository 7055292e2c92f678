/- values, plain: what a value of a type is, and where a whole ends. No condition. -/
import Derived.Test.YtjfdohhdkdjifaaGreatDoorPL16
import Derived.Test.YtjfdohhdkdjifaaGreatDoorPL14
set_option linter.unusedVariables false
set_option linter.unusedSimpArgs false
namespace Go.Proofs.YtjfdohhdkdjifaaGreatDoor
open Go.RowKit Go.BigFrame
namespace Vl
open Go.Proofs.YtjfdohhdkdjifaaGreatDoor.Id Go.Proofs.YtjfdohhdkdjifaaGreatDoor.Chk
structure Node where
 kind:Nat
 int:Int
 text:ByteArray
 kids:Int
def Node.cells (n:Node):List Value:=[.int .u8 n.kind,.int .i64 n.int,.string n.text,.int .i64 n.kids]
def NodE (w:World) (cs:List Value) (n:Node):Prop:=cs=n.cells
def ValR (w:World) (B:Option Nat) (v:Value) (l:List Node):Prop:=ERow w B 71 4 NodE v l
/-- A part without others. -/
def leaf (k:Nat) (n:Node):Bool:=n.kind==k&&(n.kids==0)&&(n.int==0||k==3||(k==2&&n.int==1))&&(n.text.toList.isEmpty||k==4)
def kidsRec (r:Rec) (n:Node):Option (List (List Srt)) :=
 if r.choice=true then
  if n.kind=8∧n.text.toList.isEmpty=true∧n.kids=1∧0≤n.int∧n.int<r.fields.length then some [(r.fields.map (·.type)).getD n.int.toNat []] else none
 else if n.kind=7∧n.int=0∧n.text.toList.isEmpty=true∧n.kids=r.fields.length then some (r.fields.map (·.type)) else none
/-- How many parts a list, or an opt, may have. -/
def wlim (lim k:Nat):Nat:=if k=6 then 1 else lim
def kidsWrap (lim k:Nat) (t:List Srt) (n:Node):Option (List (List Srt)) :=
 if n.kind=k∧n.int=0∧n.text.toList.isEmpty=true∧0≤n.kids∧n.kids≤(wlim lim k:Int) then some (List.replicate n.kids.toNat t) else none
def kidsOf (s:Sch) (lim:Nat) (x:Srt) (t:List Srt) (n:Node):Option (List (List Srt)) :=
 if x.kind=5∨x.kind=6 then kidsWrap lim x.kind t n else kidsRec ((find s x.name).getD recZ) n
def manyF (f:List Srt→List Node→Option (Nat × List Node)):List (List Srt)→Nat→List Node→Option (Nat × List Node)
 | [],d,r=>some (d,r)
 | t::ts,d,r=>match f t r with
  | none=>none
  | some p=>manyF f ts (max d p.1) p.2
def up (p:Option (Nat × List Node)):Option (Nat × List Node):=p.map fun p=>(p.1+1,p.2)
def stepK (o:Option (List (List Srt))) (f:List Srt→List Node→Option (Nat × List Node)) (r:List Node):Option (Nat × List Node):=match o with
 | none=>none
 | some ks=>up (manyF f ks 0 r)
/-- A value of a type, taken of the parts: its depth, and what is left. lim: how many parts a list may have (none: those left). -/
def ofF (s:Sch) (lim:Option Nat):Nat→List Srt→List Node→Option (Nat × List Node)
 | 0,_,_=>none
 | _+1,[],_=>none
 | _+1,_::_,[]=>none
 | k+1,x::t,n::r =>
  if x.kind=1∨x.kind=2∨x.kind=3∨x.kind=4 then (if leaf x.kind n=true then some (1,r) else none)
  else stepK (kidsOf s (lim.getD r.length) x t n) (ofF s lim k) r
/-- The parts that so many wholes take. -/
def endL (N:Nat):Nat→List Node→Option (List Node)
 | 0,r=>some r
 | _+1,[]=>none
 | l+1,n::r=>if 0≤n.kids∧n.kids≤N then endL N (l+n.kids.toNat) r else none
def size (v:List Node):Nat:=v.length+(v.map (·.text.size)).sum
noncomputable def fits (s:Sch) (t:List Srt) (v:List Node):Nat :=
 if (check s).2≠0 then (check s).2 else if right s t=false then 131 else
 match ofF s none (v.length+1) t v with
 | none=>150
 | some p=>if p.2.length≠0 then 150 else if 12<p.1 then 151 else if 4096<size v then 3 else 0
def fieldL (N:Nat) (fn:ByteArray):List Fld→List Node→Option (List Node)
 | [],_=>none
 | f::fs,r=>match endL N 1 r with
  | none=>none
  | some r'=>if (f.name.toList==fn.toList)=true then some (r.take (r.length - r'.length)) else fieldL N fn fs r'
def nmd (rn:ByteArray):List Srt:=[⟨7,rn⟩]
noncomputable def field (s:Sch) (rn:ByteArray) (v:List Node) (fn:ByteArray):Option (List Node) :=
 match find s rn with
 | none=>none
 | some r=>if r.choice=true then none else if fits s (nmd rn) v≠0 then none else fieldL v.length fn r.fields (v.drop 1)
theorem endL_add (N:Nat):∀ (r:List Node) (a b:Nat),endL N (a+b) r=(endL N a r).bind (endL N b)
 | [],0,b=>by rw [Nat.zero_add];rfl
 | [],a+1,b=>by rw [show a+1+b=(a+b)+1 by omega];rfl
 | n::r,0,b=>by rw [Nat.zero_add];rfl
 | n::r,a+1,b=>by
  rw [show a+1+b=(a+b)+1 by omega]
  unfold endL
  split
  ·rw [show a+b+n.kids.toNat=(a+n.kids.toNat)+b by omega]
   exact endL_add N r _ b
  ·rfl
theorem endL_len {N:Nat}:∀ {r:List Node} {a:Nat} {r':List Node},endL N a r=some r'→a+r'.length≤r.length∧r'=r.drop (r.length - r'.length)
 | r,0,r',h=>by
  have:endL N 0 r=some r:=by cases r <;> rfl
  rw [this] at h
  injection h with h
  subst h
  exact ⟨by omega,by rw [Nat.sub_self];rfl⟩
 | [],a+1,r',h=>by cases h
 | n::r,a+1,r',h=>by
  unfold endL at h
  split at h
  ·obtain ⟨h1,h2⟩:=endL_len h
   rw [List.length_cons]
   refine ⟨by omega,?_⟩
   rw [show r.length+1 - r'.length=(r.length - r'.length)+1 by omega]
   exact h2
  ·cases h
theorem up_some {p:Option (Nat × List Node)} {d:Nat} {r:List Node} (h:up p=some (d,r)):∃ e,d=e+1∧p=some (e,r):=by
 unfold up at h
 cases p with
 | none=>cases h
 | some q =>
  obtain ⟨a,b⟩:=q
  simp only [Option.map_some] at h
  injection h with h
  injection h with h1 h2
  subst h1 h2
  exact ⟨a,rfl,rfl⟩
/-- What is taken: at least one part of each; an end of the parts is left, where the whole ends. -/
theorem many_len {N:Nat} {f:List Srt→List Node→Option (Nat × List Node)} (hf:∀ t r d r',r.length≤N→f t r=some (d,r')→1≤d∧r'.length+1≤r.length∧endL N 1 r=some r') :
  ∀ (ts:List (List Srt)) (d:Nat) (r:List Node) (e:Nat) (r':List Node),r.length≤N→manyF f ts d r=some (e,r')→d≤e∧r'.length+ts.length≤r.length∧endL N ts.length r=some r'
 | [],d,r,e,r',hN,h=>by
  injection h with h
  injection h with h1 h2
  subst h1 h2
  exact ⟨Nat.le_refl _,by simp,by cases r <;> rfl⟩
 | t::ts,d,r,e,r',hN,h=>by
  unfold manyF at h
  split at h
  ·cases h
  ·rename_i p hp
   obtain ⟨a,q⟩:=p
   obtain ⟨h1,h2,h3⟩:=hf t r a q hN hp
   obtain ⟨h4,h5,h6⟩:=many_len hf ts (max d a) q e r' (by omega:q.length≤N) h
   simp only [List.length_cons]
   refine ⟨by omega,by omega,?_⟩
   rw [show ts.length+1=1+ts.length by omega,endL_add,h3]
   exact h6
theorem kids_num {s:Sch} {lim:Nat} {x:Srt} {t:List Srt} {n:Node} {ks:List (List Srt)} (h:kidsOf s lim x t n=some ks):n.kids=ks.length:=by
 unfold kidsOf at h
 split at h
 ·unfold kidsWrap at h
  split at h
  ·rename_i h1
   injection h with h
   subst h
   rw [List.length_replicate]
   omega
  ·cases h
 ·unfold kidsRec at h
  split at h
  ·split at h
   ·rename_i h1
    injection h with h
    subst h
    rw [h1.2.2.1]
    rfl
   ·cases h
  ·split at h
   ·rename_i h1
    injection h with h
    subst h
    rw [h1.2.2.2,List.length_map]
   ·cases h
theorem leaf_kids {k:Nat} {n:Node} (h:leaf k n=true):n.kids=0:=by
 unfold leaf at h
 simp only [Bool.and_eq_true,beq_iff_eq] at h
 exact h.1.1.2
theorem stepK_some {o:Option (List (List Srt))} {f:List Srt→List Node→Option (Nat × List Node)} {r:List Node} {d:Nat} {r':List Node} (h:stepK o f r=some (d,r')):∃ ks e,o=some ks∧d=e+1∧manyF f ks 0 r=some (e,r'):=by
 unfold stepK at h
 split at h
 ·cases h
 ·rename_i ks
  obtain ⟨e,h1,h2⟩:=up_some h
  exact ⟨ks,e,rfl,h1,h2⟩
theorem of_len {s:Sch} {lim:Option Nat} {N:Nat}:∀ (k:Nat) (t:List Srt) (r:List Node) (d:Nat) (r':List Node),r.length≤N→ofF s lim k t r=some (d,r')→1≤d∧r'.length+1≤r.length∧endL N 1 r=some r'
 | 0,t,r,d,r',hN,h=>by unfold ofF at h;cases h
 | k+1,[],r,d,r',hN,h=>by unfold ofF at h;cases h
 | k+1,x::t,[],d,r',hN,h=>by unfold ofF at h;cases h
 | k+1,x::t,n::r,d,r',hN,h=>by
  simp only [List.length_cons] at hN ⊢
  unfold ofF at h
  split at h
  ·split at h
   ·rename_i hl
    injection h with h
    injection h with h1 h2
    subst h1 h2
    refine ⟨Nat.le_refl _,Nat.le_refl _,?_⟩
    unfold endL
    rw [leaf_kids hl,if_pos ⟨by omega,by omega⟩]
    cases r <;> rfl
   ·cases h
  ·obtain ⟨ks,e,hks,rfl,h2⟩:=stepK_some h
   obtain ⟨h3,h4,h5⟩:=many_len (N:=N) (of_len k) ks 0 r e r' (by omega) h2
   refine ⟨by omega,by omega,?_⟩
   have hn:=kids_num hks
   unfold endL
   rw [hn,if_pos ⟨by omega,by omega⟩,Nat.zero_add,Int.toNat_natCast]
   exact h5
end Vl
end Go.Proofs.YtjfdohhdkdjifaaGreatDoor
set_option linter.unusedVariables false
set_option linter.unusedSimpArgs false
namespace Go.Proofs.YtjfdohhdkdjifaaGreatDoor
open Go.RowKit Go.BigFrame
namespace Vl
open Go.Proofs.YtjfdohhdkdjifaaGreatDoor.Id Go.Proofs.YtjfdohhdkdjifaaGreatDoor.Chk Go.Proofs.YtjfdohhdkdjifaaGreatDoor.Prn
theorem typeP_empty (t:List Srt):(typeP t).toList.isEmpty=!(decide (t.length≤12)&&okP t):=by
 unfold typeP
 by_cases h:t.length≤12∧okP t=true
 ·rw [if_pos h,decide_eq_true h.1,h.2]
  cases he:(jn (t.map sortW)).toList.isEmpty
  ·rfl
  ·exfalso
   have h1:=type_text h.2 h.1
   rw [empty_of he] at h1
   have h2:(Id.type (⟨#[]⟩:ByteArray)).2.2=120:=by decide +kernel
   rw [h1] at h2
   cases h2
 ·rw [if_neg h]
  have:(decide (t.length≤12)&&okP t)=false:=by
   rw [Bool.eq_false_iff]
   intro h2
   rw [Bool.and_eq_true,decide_eq_true_eq] at h2
   exact h h2
  rw [this]
  decide +kernel
theorem name_size {s:ByteArray} (h:Tk.isName s=true):s.size≤32:=by
 rcases Nat.lt_or_ge 32 s.size with h1 | h1
 ·have:=Tk.isName_short (.inr h1)
  rw [this] at h
  cases h
 ·exact h1
/-- The last sort's name is there. -/
def lastOk (s:Sch) (t:List Srt):Bool:=match t.getLast? with
 | none=>false
 | some x=>x.kind != 7||(find s x.name).isSome
theorem find_name {s:Sch} {n:ByteArray} {r:Rec} (h:find s n=some r):r∈s.records∧r.name=n:=by
 unfold find at h
 refine ⟨List.mem_of_find?_eq_some h,Tk.text_eq ?_⟩
 have:=List.find?_some h
 simpa using this
theorem fin_last {s:Sch} (h:Right s) (x:Srt):fin s x=(finP x&&(x.kind != 7||(find s x.name).isSome)):=by
 unfold fin finP
 by_cases h1:x.kind=1∨x.kind=2∨x.kind=3∨x.kind=4
 ·rw [if_pos h1,if_pos h1,show (x.kind != 7)=true by rw [bne_iff_ne];omega]
  simp
 ·rw [if_neg h1,if_neg h1]
  by_cases h7:x.kind=7
  ·rw [if_pos h7,if_pos h7,show (x.kind != 7)=false by rw [h7];rfl,Bool.false_or]
   cases hf:find s x.name with
   | none=>simp
   | some r =>
    obtain ⟨hr,hn⟩:=find_name hf
    have:=(ok_of_right h).rn r hr
    rw [hn] at this
    rw [this]
    rfl
  ·rw [if_neg h7,if_neg h7,Bool.false_and]
theorem okT_last {s:Sch} (h:Right s):∀ t:List Srt,okT s t=(okP t&&lastOk s t)
 | []=>rfl
 | [x]=>fin_last h x
 | x::y::l=>by
  show (mid x&&okT s (y::l))=(mid x&&okP (y::l)&&lastOk s (x::y::l))
  rw [okT_last h (y::l),Bool.and_assoc]
  rfl
theorem right_typeP {s:Sch} (h:Right s) (t:List Srt):right s t=(!(typeP t).toList.isEmpty&&lastOk s t):=by
 rw [typeP_empty,Bool.not_not]
 unfold right
 rw [okT_last h,Bool.and_assoc]
/-- The last record of a name. -/
def lastR (rs:List Rec) (n:ByteArray):Rec:=(rs.reverse.find? fun r=>r.name.toList==n.toList).getD recZ
theorem lastR_snoc (rs:List Rec) (r:Rec) (n:ByteArray):lastR (rs++[r]) n=if (r.name.toList==n.toList)=true then r else lastR rs n:=by
 unfold lastR
 rw [List.reverse_append,List.reverse_singleton,List.singleton_append,List.find?_cons]
 cases h:(r.name.toList==n.toList) <;> rfl
theorem lastR_find {s:Sch} (h:Right s) (n:ByteArray):lastR s.records n=(find s n).getD recZ:=by
 unfold lastR
 cases hf:s.records.reverse.find? (fun r=>r.name.toList==n.toList) with
 | some r =>
  have hm:=List.mem_reverse.1 (List.mem_of_find?_eq_some hf)
  have hn:r.name=n:=Tk.text_eq (by simpa using List.find?_some hf)
  have:=right_find h hm
  rw [hn] at this
  rw [this]
 | none =>
  have:find s n=none:=by
   unfold find
   rw [List.find?_eq_none] at hf ⊢
   exact fun x hx=>hf x (List.mem_reverse.2 hx)
  rw [this]
/-- Types of a right schema's fields, and types within a type, are right. -/
theorem okT_tail {s:Sch} {x:Srt} {t:List Srt} (h:okT s (x::t)=true) (hx:x.kind=5∨x.kind=6):okT s t=true:=by
 cases t with
 | nil =>
  have h:fin s x=true:=h
  unfold fin at h
  rw [if_neg (by omega),if_neg (by omega)] at h
  cases h
 | cons y l =>
  have h:(mid x&&okT s (y::l))=true:=h
  rw [Bool.and_eq_true] at h
  exact h.2
theorem okT_kind {s:Sch} {x:Srt} {t:List Srt} (h:okT s (x::t)=true):(x.kind=1∨x.kind=2∨x.kind=3∨x.kind=4)∨x.kind=5∨x.kind=6∨(x.kind=7∧t=[]∧(find s x.name).isSome=true):=by
 cases t with
 | nil =>
  have h:fin s x=true:=h
  unfold fin at h
  by_cases h1:x.kind=1∨x.kind=2∨x.kind=3∨x.kind=4
  ·exact .inl h1
  ·rw [if_neg h1] at h
   by_cases h7:x.kind=7
   ·rw [if_pos h7] at h
    exact .inr (.inr (.inr ⟨h7,rfl,h⟩))
   ·rw [if_neg h7] at h
    cases h
 | cons y l =>
  have h:(mid x&&okT s (y::l))=true:=h
  rw [Bool.and_eq_true] at h
  have:=h.1
  unfold mid at this
  simp only [Bool.and_eq_true,Bool.or_eq_true,beq_iff_eq] at this
  omega
theorem okT_ne {s:Sch} {t:List Srt} (h:okT s t=true):t≠[]:=fun e=>by subst e;cases h
theorem right_okT {s:Sch} {t:List Srt} (h:right s t=true):okT s t=true∧t.length≤12:=by
 unfold right at h
 rw [Bool.and_eq_true,decide_eq_true_eq] at h
 exact ⟨h.2,h.1⟩
theorem field_right {s:Sch} (h:Right s) {r:Rec} (hr:r∈s.records) {f:Fld} (hf:f∈r.fields):right s f.type=true:=by
 have ht:=(right_iff.1 h).2.2.2.1
 exact ht (right s f.type,Chk.part r.name f.name) (List.mem_append_left _ (List.mem_flatMap.2 ⟨r,hr,List.mem_flatMap.2 ⟨f,hf,by simp [typesF]⟩⟩))
theorem fields_few {s:Sch} (h:Right s) {r:Rec} (hr:r∈s.records):r.fields.length≤16:=by
 have ht:=(right_iff.1 h).2.1
 have:=ht (decide ((r.fields.length:Int)≤16),r.name) (List.mem_cons_of_mem _ (List.mem_append_left _ (List.mem_flatMap.2 ⟨r,hr,by simp [countsR]⟩)))
 rw [decide_eq_true_eq] at this
 omega
/-- The types of a part's kids are right. -/
theorem kids_right {s:Sch} (h:Right s) {lim:Nat} {x:Srt} {t:List Srt} {n:Node} {ks:List (List Srt)} (ht:okT s (x::t)=true) (hk:kidsOf s lim x t n=some ks) (hp:¬(x.kind=1∨x.kind=2∨x.kind=3∨x.kind=4)):∀ k∈ks,okT s k=true:=by
 unfold kidsOf at hk
 split at hk
 ·rename_i h56
  unfold kidsWrap at hk
  split at hk
  ·injection hk with hk
   subst hk
   intro k hkm
   rw [List.eq_of_mem_replicate hkm]
   exact okT_tail ht h56
  ·cases hk
 ·rename_i h56
  rcases okT_kind ht with h1 | h5 | h6 | ⟨h7,rfl,hs⟩
  ·exact absurd h1 hp
  ·exact absurd (.inl h5) h56
  ·exact absurd (.inr h6) h56
  ·obtain ⟨r,hr⟩:=Option.isSome_iff_exists.1 hs
   have hm:=(find_name hr).1
   rw [hr,Option.getD_some] at hk
   unfold kidsRec at hk
   split at hk
   ·split at hk
    ·rename_i h1
     injection hk with hk
     subst hk
     intro k hkm
     simp only [List.mem_singleton] at hkm
     subst hkm
     have hlt:n.int.toNat<(r.fields.map (·.type)).length:=by rw [List.length_map];omega
     rw [List.getD_eq_getElem?_getD,List.getElem?_eq_getElem hlt,Option.getD_some,List.getElem_map]
     exact (right_okT (field_right h hm (List.getElem_mem _))).1
    ·cases hk
   ·split at hk
    ·injection hk with hk
     subst hk
     intro k hkm
     obtain ⟨f,hf,rfl⟩:=List.mem_map.1 hkm
     exact (right_okT (field_right h hm hf)).1
    ·cases hk
/-- A place as a number: -1 where there is none. -/
def endV (v:List Node):Option (List Node)→Int
 | none=>-1
 | some r=>(v.length:Int) - r.length
def docV (v:List Node):Option (Nat × List Node)→Int × Nat
 | none=>(-1,0)
 | some p=>((v.length:Int) - p.2.length,p.1)
def deep:Option (Nat × List Node)→Nat
 | none=>0
 | some p=>p.1
def endAt (v:List Node) (at_:Int):Option (List Node):=if 0≤at_ then endL v.length 1 (v.drop at_.toNat) else none
end Vl
end Go.Proofs.YtjfdohhdkdjifaaGreatDoor
set_option linter.unusedVariables false
set_option linter.unusedSimpArgs false
namespace Go.Proofs.YtjfdohhdkdjifaaGreatDoor
open Go.RowKit Go.BigFrame
namespace Vl
def zeroN:Node:=⟨0,0,⟨#[]⟩,0⟩
def Node.val (n:Node):Value:=.agg #[.int .u8 n.kind,.int .i64 n.int,.string n.text,.int .i64 n.kids]
def nxt (r:List Node) (k:Nat):Option Node:=match r with
 | []=>none
 | n::_=>if n.kind=k then some n else none
def nxtTo (r:List Node) (k a:Nat):Nat:=if (nxt r k).isSome=true then a+1 else a
def Cur (w:World) (b:Nat) (vs:Value) (a:Nat) (f:Value):Prop:=Bk w b 106 #[vs,.int .i64 a,f]
def bare (n:Node) (number text kids:Bool):Bool:=(number||n.int==0)&&(text||n.text.toList.isEmpty)&&(kids||n.kids==0)
end Vl
set_option maxRecDepth 100000 in
set_option maxHeartbeats 8000000 in
theorem vone_any (b:Bool) (w:World):Calls Tryz.prog 113 #[.bool b] w fun e w'=>e=.returned (.int .i64 (if b=true then 1 else 0))∧w'=w:=by
 cases b
 ·go_enter Tryz.func113,Tryz.ntmps113
  go_wp2_with fail
  go_ret
  exact ⟨rfl,rfl⟩
 ·go_enter Tryz.func113,Tryz.ntmps113
  go_wp2_with fail
  go_ret
  exact ⟨rfl,rfl⟩
set_option maxRecDepth 100000 in
set_option maxHeartbeats 8000000 in
theorem vbare_any (n:Vl.Node) (b1 b2 b3:Bool) (w:World):Calls Tryz.prog 114 #[n.val,.bool b1,.bool b2,.bool b3] w fun e w'=>e=.returned (.bool (Vl.bare n b1 b2 b3))∧Below w.heap.size w w':=by
 obtain ⟨R,HR⟩:∃ R,Hid (Vl.bare n b1 b2 b3=R):=⟨_,Lib.hid rfl⟩
 rw [HR.out]
 obtain ⟨n0,n1,n2,n3⟩:=n
 unfold Vl.Node.val
 unfold Vl.bare at HR
 simp only at HR ⊢
 cases h1:(n1==0) <;> cases h2:n2.toList.isEmpty <;> cases h3:(n3==0) <;> cases b1 <;> cases b2 <;> cases b3 <;>
 (rw [h1,h2,h3] at HR
  simp only [Bool.or_true,Bool.or_false,Bool.and_true,Bool.and_false] at HR
  go_enter Tryz.func114,Tryz.ntmps114
  go_wp2_with fail
  go_ret
  refine ⟨by rw [←HR.out];rfl,?_⟩
  exact (Below.refl _ _).alloc (Nat.le_refl _) _)
set_option maxRecDepth 100000 in
set_option maxHeartbeats 8000000 in
theorem vnext_any (b a:Nat) (vs f:Value) (v:List Vl.Node) (k:Nat) (w0 w:World) (hv:Vl.ValR w0 none vs v) (hbel:Below w0.heap.size w0 w) (hb0:w0.heap.size≤b) (hc:Vl.Cur w b vs a f) (ha:a≤v.length) (hl:v.length≤100000) :
  Calls Tryz.prog 112 #[.pointer (some ⟨b,0,none⟩),.int .u8 k] w fun e w'=>e=.returned (.tuple #[((Vl.nxt (v.drop a) k).getD Vl.zeroN).val,.bool (Vl.nxt (v.drop a) k).isSome])∧w.grownBy w' (some b)∧Vl.Cur w' b vs (Vl.nxtTo (v.drop a) k a) f:=by
 obtain ⟨R,HR⟩:∃ R,Hid (Vl.nxt (v.drop a) k=R):=⟨_,Lib.hid rfl⟩
 unfold Vl.nxtTo
 rw [HR.out]
 obtain ⟨A,n,c,rfl⟩:=ERow.is hv
 have HN:Hid (n=v.length):=Lib.hid (by obtain ⟨_,_,e,_⟩:=ERow.slice hv;injection e)
 have hn:n≤100000:=by rw [HN.out];exact hl
 have han:a≤n:=by rw [HN.out];exact ha
 have HV:=Lib.hid hv
 have HB:=Lib.hid hbel
 have HC:=Lib.hid hc
 obtain ⟨⟨c0,c1,c2⟩,f0,f1,f2⟩:=(show Bk w b 106 #[.slice A n c,.int .i64 a,f] from hc).k3
 have hblt:b<w.heap.size:=hc.lt
 have hbne:¬b=w.heap.size:=by omega
 have hbne2:¬w.heap.size=b:=by omega
 have ia0:(0:Int)≤(a:Int):=by omega
 have fin:∀ W:World,w.grownBy W (some b)→Bk W w.heap.size 71 #[.int .u8 0,.int .i64 0,.string ⟨#[]⟩,.int .i64 0]→True:=fun _ _ _=>trivial
 clear hv hbel hc hl ha fin
 by_cases hlt:a<n
 case neg =>
  have h1:(n:Int)≤(a:Int):=by omega
  have h2:n≤a:=by omega
  have HE:Hid (R=none):=Lib.hid (by rw [←HR.out,List.drop_of_length_le (by rw [←HN.out];omega)];rfl)
  obtain rfl:=HE.out
  simp only [Option.getD_none,Option.isSome_none,Bool.false_eq_true,if_false,Vl.zeroN,Vl.Node.val]
  go_enter Tryz.func112,Tryz.ntmps112
  go_wp2_with fail
  go_quiet (fail)
  go_wp2_with fail
  have hq:=((((Bk.new w 71 #[.int .u8 0,.int .i64 0,.string ⟨#[]⟩,.int .i64 0]).drewN nq).set_ 0 (.int .u8 0)).set_ 1 (.int .i64 0)).set_ 2 (.string ⟨#[]⟩) |>.set_ 3 (.int .i64 0)
  have hb:=(((((below_drewN ((Below.refl w.heap.size w).alloc (Nat.le_refl _) (.cells #[.int .u8 0,.int .i64 0,.string ⟨#[]⟩,.int .i64 0] 71)) nq).setCell (p:=⟨w.heap.size,0,none⟩) (by simp) (.int .u8 0)).setCell (p:=⟨w.heap.size,1,none⟩) (by simp) (.int .i64 0)).setCell (p:=⟨w.heap.size,2,none⟩) (by simp) (.string ⟨#[]⟩)).setCell (p:=⟨w.heap.size,3,none⟩) (by simp) (.int .i64 0))
  obtain ⟨⟨y0,y1,y2,y3⟩,_⟩:=hq.k4
  refine bodyPost_ret (v:=.tuple #[.agg #[.int .u8 0,.int .i64 0,.string ⟨#[]⟩,.int .i64 0],.bool false]) ?_ rfl ⟨rfl,gb_below hb _,Bk.below HC.out hb hblt⟩
  rw [res_ct rfl]
  go_simp
  try rfl
 have hka:a<v.length:=by rw [←HN.out];exact hlt
 obtain ⟨g,off,cs,rfl,-,e1,hc⟩:=ERow.get HV.out hka (by omega)
 have hD:v.drop a=v[a]::v.drop (a+1):=List.drop_eq_getElem_cons hka
 rw [hD] at HR
 obtain ⟨⟨n0,n1,n2,n3⟩,Hx⟩:∃ y,Hid (v[a]=y):=⟨_,Lib.hid rfl⟩
 rw [Hx.out] at e1 HR
 unfold Vl.NodE Vl.Node.cells at e1
 subst e1
 have a0:=hc 0 _ rfl
 have a1:=hc 1 _ rfl
 have a2:=hc 2 _ rfl
 have a3:=hc 3 _ rfl
 simp only [Nat.add_zero] at a0
 have hgl:g<w0.heap.size:=World.block_lt_of_cell? w0 _ a0
 have a0:=(HB.out.cell hgl).trans a0
 have a1:=(HB.out.cell hgl).trans a1
 have a2:=(HB.out.cell hgl).trans a2
 have a3:=(HB.out.cell hgl).trans a3
 have hgw:g<w.heap.size:=by omega
 have hgne:¬g=w.heap.size:=by omega
 have hgb:¬g=b:=by omega
 have hbg:¬b=g:=by omega
 have ia1:(a:Int)<(n:Int):=by omega
 have ia2:¬(n:Int)≤(a:Int):=by omega
 have ia3:¬n≤a:=by omega
 clear hc hD Hx
 by_cases hk:n0=k
 case neg =>
  have HE:Hid (R=none):=Lib.hid (by rw [←HR.out];exact if_neg hk)
  have t0:((n0:Int) != (k:Int))=true:=by rw [bne_iff_ne];omega
  have t1:((n0:Int)==(k:Int))=false:=by rw [beq_eq_false_iff_ne];omega
  have t2:¬(n0:Int)=(k:Int):=by omega
  obtain rfl:=HE.out
  simp only [Option.getD_none,Option.isSome_none,Bool.false_eq_true,if_false,Vl.zeroN,Vl.Node.val]
  go_enter Tryz.func112,Tryz.ntmps112
  go_wp2_with fail
  go_quiet (fail)
  go_wp2_with fail
  have hq:=((((Bk.new w 71 #[.int .u8 0,.int .i64 0,.string ⟨#[]⟩,.int .i64 0]).drewN nq).set_ 0 (.int .u8 0)).set_ 1 (.int .i64 0)).set_ 2 (.string ⟨#[]⟩) |>.set_ 3 (.int .i64 0)
  have hb:=(((((below_drewN ((Below.refl w.heap.size w).alloc (Nat.le_refl _) (.cells #[.int .u8 0,.int .i64 0,.string ⟨#[]⟩,.int .i64 0] 71)) nq).setCell (p:=⟨w.heap.size,0,none⟩) (by simp) (.int .u8 0)).setCell (p:=⟨w.heap.size,1,none⟩) (by simp) (.int .i64 0)).setCell (p:=⟨w.heap.size,2,none⟩) (by simp) (.string ⟨#[]⟩)).setCell (p:=⟨w.heap.size,3,none⟩) (by simp) (.int .i64 0))
  obtain ⟨⟨y0,y1,y2,y3⟩,_⟩:=hq.k4
  refine bodyPost_ret (v:=.tuple #[.agg #[.int .u8 0,.int .i64 0,.string ⟨#[]⟩,.int .i64 0],.bool false]) ?_ rfl ⟨rfl,gb_below hb _,Bk.below HC.out hb hblt⟩
  rw [res_ct rfl]
  go_simp
  try rfl
 subst hk
 have HE:Hid (R=some ⟨n0,n1,n2,n3⟩):=Lib.hid (by rw [←HR.out];exact if_pos rfl)
 have t0:((n0:Int) != (n0:Int))=false:=by simp
 obtain rfl:=HE.out
 simp only [Option.getD_some,Option.isSome_some,if_true,Vl.Node.val]
 go_enter Tryz.func112,Tryz.ntmps112
 go_wp2_with fail
 go_quiet (fail)
 go_upto_region 4 with (fail)
 refine wp_named (fun V hV=>?_)
 have hq0:=((Bk.new w 71 #[.int .u8 0,.int .i64 0,.string ⟨#[]⟩,.int .i64 0]).drewN nq).far (p:=⟨b,1,none⟩) (by simp;omega) (.int .i64 ((a:Int)+1))
 have hg0:w.grownBy V (some b):=by
  rw [hV]
  exact gb_set (gb_below (below_drewN ((Below.refl w.heap.size w).alloc (Nat.le_refl _) _) nq) _) (.inl rfl) _
 have hc0:Bk V b 106 #[.slice (some ⟨g,off,none⟩) n c,.int .i64 ((a:Int)+1),f]:=by
  rw [hV]
  exact (Bk.drewN ((show Bk w b 106 #[.slice (some ⟨g,off,none⟩) n c,.int .i64 a,f] from HC.out).alloc _) nq).set_ 1 _
 rw [←hV] at hq0
 have b0:V.cell? _=_:=(World.cell?_of_block (a:=⟨g,off+a * 4,none⟩) (hg0.block g hgw (by intro e;injection e with e;exact hgb e))).trans a0
 have b1:V.cell? _=_:=(World.cell?_of_block (a:=⟨g,off+a * 4+1,none⟩) (hg0.block g hgw (by intro e;injection e with e;exact hgb e))).trans a1
 have b2:V.cell? _=_:=(World.cell?_of_block (a:=⟨g,off+a * 4+2,none⟩) (hg0.block g hgw (by intro e;injection e with e;exact hgb e))).trans a2
 have b3:V.cell? _=_:=(World.cell?_of_block (a:=⟨g,off+a * 4+3,none⟩) (hg0.block g hgw (by intro e;injection e with e;exact hgb e))).trans a3
 have HG0:=Lib.hid hg0
 have HC0:=Lib.hid hc0
 have HQ0:=Lib.hid hq0
 obtain ⟨⟨d0,d1,d2⟩,-⟩:=hc0.k3
 obtain ⟨⟨z0,z1,z2,z3⟩,z4,z5,z6,z7⟩:=hq0.k4
 clear hV hg0 hc0 hq0 a0 a1 a2 a3 c0 c1 c2 f0 f1 f2
 have j0:(a:Int)+1 - 1=(a:Int):=by omega
 go_region
 have hq1:=(((HQ0.out.set_ 0 (.int .u8 n0)).set_ 1 (.int .i64 n1)).set_ 2 (.string n2)).set_ 3 (.int .i64 n3)
 have hc1:=(((HC0.out.far (p:=⟨w.heap.size,0,none⟩) (by simp;omega) (.int .u8 n0)).far (p:=⟨w.heap.size,1,none⟩) (by simp;omega) (.int .i64 n1)).far (p:=⟨w.heap.size,2,none⟩) (by simp;omega) (.string n2)).far (p:=⟨w.heap.size,3,none⟩) (by simp;omega) (.int .i64 n3)
 have hg1:=gb_set (p:=⟨w.heap.size,3,none⟩) (gb_set (p:=⟨w.heap.size,2,none⟩) (gb_set (p:=⟨w.heap.size,1,none⟩) (gb_set (p:=⟨w.heap.size,0,none⟩) HG0.out (.inr (Nat.le_refl _)) (.int .u8 n0)) (.inr (Nat.le_refl _)) (.int .i64 n1)) (.inr (Nat.le_refl _)) (.string n2)) (.inr (Nat.le_refl _)) (.int .i64 n3)
 obtain ⟨⟨y0,y1,y2,y3⟩,_⟩:=hq1.k4
 go_wp2_with fail
 refine bodyPost_ret (v:=.tuple #[.agg #[.int .u8 n0,.int .i64 n1,.string n2,.int .i64 n3],.bool true]) ?_ rfl ⟨rfl,gb_drew hg1,hc1⟩
 rw [res_ct rfl]
 go_simp
 try rfl
end Go.Proofs.YtjfdohhdkdjifaaGreatDoor
set_option linter.unusedVariables false
set_option linter.unusedSimpArgs false
namespace Go.Proofs.YtjfdohhdkdjifaaGreatDoor
open Go.RowKit Go.BigFrame Go.Maps Go.WideMaps
/-- An element that is any value at all. -/
def heldR (v:Value):Option (DataW Value × List MemPlace):=some (.held v,[])
theorem wpList_lookup_held {P:Program} (w:World) {ops:Array Oper} {rest:List Oper} {o:Oper} {a:Act} {Q:Exit→Act→World→Prop}
  (hg:o.guard=none) (m x:Operand) (t:TypeId) (hop:o.op=Op.lookup t m x false)
  (k e:TypeId) (K:Keyed P k) (ht:P.underlying t=some (.map k e)) (z:Value) (hz:(zeroValue e).run P w=.ok z w) (b n:Nat) (D:DataW Value)
  (hm:a.eval m=.map (some b)) (hown:w.ownsMap P k heldR b n D) (key:Value) (kl:Lit) (hx:a.eval x=key) (hkey:keyOf P k key=some kl) (u:Value) (hat:D.atKey kl (.held z)=.held u)
  (hK:wpList P ops Q rest (a.put o.dst u) w) :
  wpList P ops Q (o::rest) a w:=by
 refine wpList_plain hg fun K' hK'=>?_
 obtain ⟨v,ps,hrun,hv⟩:=hown.lookup K ht hz rfl hkey
 have e2:v=u:=by
  rw [hat] at hv
  unfold heldR at hv
  injection hv with hv
  injection hv with hv
  injection hv
 subst e2
 unfold Oper.wp
 simp [execOp,hop,hm,hx,hrun,Result.andThen]
 exact hK' _ _ hK
theorem ownsMap_isMapV {w:World} {R:Value→Option (DataW Value × List MemPlace)} {b n:Nat} {D:DataW Value} (h:w.ownsMap Tryz.prog 9 R b n D):IsMap D:=by
 obtain ⟨es,clock,_,_,_,rfl⟩:=h
 exact ⟨_,rfl⟩
namespace Vl
open Go.Proofs.YtjfdohhdkdjifaaGreatDoor.Id Go.Proofs.YtjfdohhdkdjifaaGreatDoor.Chk
def recZV:Value:=.agg #[.string ⟨#[]⟩,.bool false,.slice none 0 0]
theorem zeroRec (w:World):(zeroValue 42).run Tryz.prog w=.ok recZV w:=by kernel_rfl
def FM (w0 w:World) (b:Nat) (rs:List Rec):Prop :=
 ∃ (D:DataW Value) (vl:ByteArray→Value),w.ownsMap Tryz.prog 9 heldR b rs.length D∧∀ s:ByteArray,D.atKey (.string s.data.toList) (.held recZV)=.held (vl s)∧RecV w0 none (vl s) (lastR rs s)
theorem recZ_ok (w0:World):RecV w0 none recZV recZ:=⟨_,rfl,ERow.nil_none _ _ _ _⟩
theorem FM.made (w0 w:World):FM w0 (w.alloc (.map #[] 0)) w.heap.size []:=⟨_,fun _=>recZV,World.ownsMap_made _ _ _ _,fun s=>⟨rfl,recZ_ok w0⟩⟩
theorem FM.kept {w0 w w':World} {row:Option Nat} {b:Nat} {rs:List Rec} (h:FM w0 w b rs) (hg:w.grownBy w' row) (hne:some b≠row):FM w0 w' b rs:=let ⟨D,vl,h1,h2⟩:=h;⟨D,vl,h1.kept hg hne,h2⟩
theorem FM.below {w0 w w':World} {b:Nat} {rs:List Rec} (h:FM w0 w b rs) (hg:Below w.heap.size w w'):FM w0 w' b rs:=h.kept (gb_below hg none) (by simp)
theorem FM.lt {w0 w:World} {b:Nat} {rs:List Rec} (h:FM w0 w b rs):b<w.heap.size:=let ⟨_,_,h1,_⟩:=h;h1.lt
/-- The map, and the box that the finder has of it. -/
structure Fnd (w0 w:World) (g m:Nat) (rs:List Rec):Prop where
 bx:Bk w g 175 #[.map (some m)]
 lo:w0.heap.size≤g
 lom:w0.heap.size≤m
 fm:FM w0 w m rs
theorem Fnd.kept {w0 w w':World} {b g m:Nat} {rs:List Rec} (h:Fnd w0 w g m rs) (hg:w.grownBy w' (some b)) (hb:b≠g) (hm:b≠m):Fnd w0 w' g m rs :=
 ⟨h.bx.grown hg (by intro e;injection e with e;exact hb e.symm),h.lo,h.lom,h.fm.kept hg (by intro e;injection e with e;exact hm e.symm)⟩
theorem Fnd.below {w0 w w':World} {g m:Nat} {rs:List Rec} (h:Fnd w0 w g m rs) (hb:Below w.heap.size w w'):Fnd w0 w' g m rs :=
 ⟨h.bx.below hb h.bx.lt,h.lo,h.lom,h.fm.below hb⟩
/-- While the map is filled. -/
structure FinW (w wr:World) (z:Value) (S:Array Value) (rs:List Rec):Prop where
 bel:Below w.heap.size w wr
 sch:Bk wr w.heap.size 28 S
 bx:Bk wr (w.heap.size+1+1) 175 #[.map (some (w.heap.size+1))]
 fm:FM w wr (w.heap.size+1) rs
theorem FinW.below {w wr w':World} {z:Value} {S:Array Value} {rs:List Rec} (h:FinW w wr z S rs) (hb:Below wr.heap.size wr w'):FinW w w' z S rs :=
 ⟨h.bel.trans (hb.mono h.bel.size),h.sch.below hb h.sch.lt,h.bx.below hb h.bx.lt,h.fm.below hb⟩
end Vl
set_option maxRecDepth 100000 in
set_option maxHeartbeats 8000000 in
theorem vfound_any (g m:Nat) (rs:List Id.Rec) (s:ByteArray) (hs:s.size≤1000) (w0 w:World) (hf:Vl.Fnd w0 w g m rs) :
  Calls Tryz.prog 111 #[.string s,.pointer (some ⟨g,0,none⟩)] w fun e w'=>∃ A n c,e=.returned (.agg #[.string (Vl.lastR rs s).name,.bool (Vl.lastR rs s).choice,.slice A n c])∧Id.FldsR w0 none (.slice A n c) (Vl.lastR rs s).fields∧Below w.heap.size w w':=by
 obtain ⟨D,vl,hown,hat⟩:=hf.fm
 have hbox:=hf.bx
 obtain ⟨p0,_⟩:=hbox.k1
 have hgl:=hbox.lt
 have hgne:¬g=w.heap.size:=by omega
 obtain ⟨hat1,u,hu,hfl⟩:=hat s
 obtain ⟨A,n,c,rfl⟩:=ERow.is hfl
 have HF:=Lib.hid hfl
 have hkey:keyOf Tryz.prog 9 (.string s)=some (.string s.data.toList):=key_of (by unfold maxLen;omega)
 have HO:=Lib.hid (hown.alloc (.cells #[.string ⟨#[]⟩,.bool false,.slice none 0 0] 42))
 have HA:=Lib.hid hat1
 have HU:=Lib.hid hu
 clear hf hat hown hat1 hfl hu hbox
 go_enter Tryz.func111,Tryz.ntmps111
 go_wp2_with (first
  | (at_lookup;refine wpList_lookup_held _ rfl _ _ 175 rfl 9 42 strKey Tryz.underlying175 Vl.recZV (Vl.zeroRec _) m rs.length D rfl HO.out _ _ rfl hkey _ (HA.out.trans (by rw [HU.out])) ?_)
  | go_in)
 have hq:=Bk.new w 42 #[.string (Vl.lastR rs s).name,.bool (Vl.lastR rs s).choice,.slice A n c]
 have hb:=(Below.refl w.heap.size w).alloc (Nat.le_refl _) (.cells #[.string (Vl.lastR rs s).name,.bool (Vl.lastR rs s).choice,.slice A n c] 42)
 obtain ⟨⟨y0,y1,y2⟩,_⟩:=hq.k3
 refine bodyPost_ret (v:=.agg #[.string (Vl.lastR rs s).name,.bool (Vl.lastR rs s).choice,.slice A n c]) ?_ rfl ⟨A,n,c,rfl,HF.out,hb⟩
 rw [res_c rfl]
 go_simp
 try rfl
set_option maxRecDepth 100000 in
set_option maxHeartbeats 8000000 in
theorem vfinder_any (v:Value) (x:Id.Sch) (hz:∀ r∈x.records,r.name.size≤1000) (hl:x.records.length≤1000) (w:World) (hv:Id.SchV w none v x) :
  Calls Tryz.prog 54 #[v] w fun e w'=>∃ g m,e=.returned (.func (.func 111) #[] #[.pointer (some ⟨g,0,none⟩)])∧Below w.heap.size w w'∧Vl.Fnd w w' g m x.records:=by
 obtain ⟨A1,n1,c1,A2,n2,c2,A3,n3,c3,rfl,r1,r2,r3⟩:=hv
 generalize x.records=rs at *
 generalize x.name=xn at *
 have HN:Hid (n1=rs.length):=Lib.hid (by obtain ⟨_,_,e,_⟩:=ERow.slice r1;injection e)
 have hn:n1≤1000:=by rw [HN.out];exact hl
 have H1:=Lib.hid r1
 have HZ:=Lib.hid hz
 clear r1 r2 r3 hz hl
 have hmm:=@run_makeMap Tryz.prog
 go_enter Tryz.func54,Tryz.ntmps54
 go_upto_region 2 with (fail)
 clear hmm
 refine wp_named (fun V hV=>?_)
 have HW:Hid (Vl.FinW w V (.agg #[.string xn,.slice A1 n1 c1,.slice A2 n2 c2,.slice A3 n3 c3]) #[.string xn,.slice A1 n1 c1,.slice A2 n2 c2,.slice A3 n3 c3] []):=Lib.hid (by
  subst hV
  have hb:=((((Below.refl w.heap.size w).alloc (Nat.le_refl _) (.cells #[.string xn,.slice A1 n1 c1,.slice A2 n2 c2,.slice A3 n3 c3] 28)).alloc (by simp) (.map #[] 0)).alloc (by simp;omega) (.cells #[.map (some (w.heap.size+1))] 175))
  have q2:=Bk.new ((w.alloc (.cells #[.string xn,.slice A1 n1 c1,.slice A2 n2 c2,.slice A3 n3 c3] 28)).alloc (.map #[] 0)) 175 #[.map (some (w.heap.size+1))]
  have q1:=Vl.FM.made w (w.alloc (.cells #[.string xn,.slice A1 n1 c1,.slice A2 n2 c2,.slice A3 n3 c3] 28))
  simp only [World.size_alloc] at q1 q2
  exact ⟨hb,((Bk.new w _ _).alloc _).alloc _,q2,q1.below ((Below.refl _ _).alloc (Nat.le_refl _) _)⟩)
 clear hV
 obtain ⟨⟨q0,q1,q2,q3⟩,-⟩:=HW.out.sch.k4
 go_wp2_with fail
 clear q0 q1 q2 q3
 go_loopw [10] (fun i wr=>∃ (k:Nat),k≤n1∧i=.int .i64 k∧Hid (Vl.FinW w wr (.agg #[.string xn,.slice A1 n1 c1,.slice A2 n2 c2,.slice A3 n3 c3]) #[.string xn,.slice A1 n1 c1,.slice A2 n2 c2,.slice A3 n3 c3] (rs.take k))) (fun i _=>n1 - (intOf i).toNat)
 case atStart=>exact ⟨0,by omega,rfl,HW⟩
 case round =>
  obtain ⟨k,hk,rfl,HK⟩:=hrel
  obtain ⟨U,rfl⟩:∃ w',w'=wr:=⟨_,rfl⟩
  have ik0:(0:Int)≤(k:Int):=by omega
  by_cases hlt:k<n1
  case neg =>
   have HE:Hid (rs.take k=rs):=Lib.hid (List.take_of_length_le (by rw [←HN.out];omega))
   go_wp2_with fail
   go_ret
   refine ⟨w.heap.size+1+1,w.heap.size+1,rfl,HK.out.bel,HK.out.bx,by omega,by omega,?_⟩
   have h:=HK.out.fm
   rw [HE.out] at h
   exact h
  have hka:k<rs.length:=by rw [←HN.out];exact hlt
  obtain ⟨g,off,cs,rfl,-,⟨u,he,HU⟩,hc⟩:=ERow.get H1.out hka (by omega)
  have hz:=HZ.out rs[k] (List.getElem_mem hka)
  have HT:Hid (rs.take (k+1)=rs.take k++[rs[k]]):=Lib.hid (List.take_succ_eq_append_getElem hka)
  have hlen:(rs.take k).length=k:=by rw [List.length_take];omega
  generalize rs[k]=r at *
  obtain ⟨rn,rc,rf⟩:=r
  simp only at he HU hz
  subst he
  obtain ⟨A5,n5,c5,rfl⟩:=ERow.is HU
  have HU2:=Lib.hid HU
  have a0:=hc 0 _ rfl
  have a1:=hc 1 _ rfl
  have a2:=hc 2 _ rfl
  simp only [Nat.add_zero] at a0
  have hgl:g<w.heap.size:=World.block_lt_of_cell? w _ a0
  have a0:=(HK.out.bel.cell hgl).trans a0
  have a1:=(HK.out.bel.cell hgl).trans a1
  have a2:=(HK.out.bel.cell hgl).trans a2
  have ik1:(k:Int)<(n1:Int):=by omega
  clear hc HU
  go_upto_region 5 with (fail)
  refine wp_named (fun V1 hV=>?_)
  obtain ⟨hb1,hq1,-⟩:=fresh_box hV
  clear hV
  have hUs:=HK.out.bx.lt
  have HK1:=Lib.hid (HK.out.below hb1)
  have HQ1:=Lib.hid hq1
  obtain ⟨⟨b0,b1,b2⟩,-⟩:=hq1.k3
  clear hb1 hq1 a0 a1 a2 HK
  obtain ⟨p0,-⟩:=HK1.out.bx.k1
  obtain ⟨D,vl,hown,hat⟩:=HK1.out.fm
  have hkey:keyOf Tryz.prog 9 (.string rn)=some (.string rn.data.toList):=key_of (by unfold maxLen;omega)
  have HAT:=Lib.hid hat
  have HIM:=Lib.hid (ownsMap_isMapV hown)
  clear hat
  go_upto_region 6 with (first
   | (at_mapUpdate;refine wpList_mapUpdate_own _ rfl _ _ _ 175 rfl 9 42 strKey Tryz.underlying175 _ (w.heap.size+1) (rs.take k).length _ rfl hown (by unfold maxLen;omega) _ _ _ rfl rfl hkey _ [] rfl ?_;intro V2 hown1 hgrow1)
   | go_in)
  have HK2:Hid (Vl.FinW w V2 (.agg #[.string xn,.slice (some ⟨g,off,none⟩) n1 c1,.slice A2 n2 c2,.slice A3 n3 c3]) #[.string xn,.slice (some ⟨g,off,none⟩) n1 c1,.slice A2 n2 c2,.slice A3 n3 c3] (rs.take (k+1))):=Lib.hid (by
   rw [HT.out]
   have hx:∀ R,Vl.FM w V2 (w.heap.size+1) R→Vl.FinW w V2 (.agg #[.string xn,.slice (some ⟨g,off,none⟩) n1 c1,.slice A2 n2 c2,.slice A3 n3 c3]) #[.string xn,.slice (some ⟨g,off,none⟩) n1 c1,.slice A2 n2 c2,.slice A3 n3 c3] R:=fun R hR=>⟨below_gb HK1.out.bel hgrow1 (by omega) HK1.out.bel.size,HK1.out.sch.grown hgrow1 (by simp),HK1.out.bx.grown hgrow1 (by simp),hR⟩
   refine hx _ ?_
   refine ⟨_,fun s=>if (rn.toList==s.toList)=true then .agg #[.string rn,.bool rc,.slice A5 n5 c5] else vl s,by rw [List.length_append];exact hown1,fun s=>?_⟩
   rw [Vl.lastR_snoc]
   simp only
   cases hs:(rn.toList==s.toList)
   ·rw [atKey_put_other (Chk.data_ne hs)]
    exact HAT.out s
   ·obtain rfl:=Chk.data_eq hs
    rw [atKey_put_same HIM.out (by unfold WideAt.IsKeyLit;trivial)]
    exact ⟨rfl,_,rfl,HU2.out⟩)
  clear hown hown1 hgrow1
  go_wp2_with fail
  go_roundw
  case rel=>exact ⟨k+1,by omega,by go_num,HK2⟩
  case measure=>simp [intOf];omega
end Go.Proofs.YtjfdohhdkdjifaaGreatDoor
