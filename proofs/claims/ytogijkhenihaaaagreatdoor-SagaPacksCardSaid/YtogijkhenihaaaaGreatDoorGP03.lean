/- Chapter 11: what the tokens of a text are, in plain Lean. Chapter 11, plain: blanks, signs, runs, numbers. A token appended to a row of the call's own; the tokens of a text, by turns. A slice of tokens, as it lies. The reader of chapter 11: what its block says; skip. (*token.reader).skip: the place goes to the gap's end. (*token.reader).run: the place goes to the run's end; its text. Names and keywords: token.Keyword, token.Name and the reference's. token.Name, the reference's Name; TokenNames: the walk. (merged by merge.py: XTokMath XTokMath2 XTokAppend XTokRow XTokWalkA XTokReader XTokSkip XTokRun XTokWalkAR XTokNames XTokNames2). No condition but the ones the theorems state. -/
import Derived.Test.YtogijkhenihaaaaGreatDoorGP01
import Derived.Test.YtogijkhenihaaaaGreatDoorGP02
import Derived.Deep.QuietTactic
import Derived.BigQuiet
import Derived.Lib.Bytealg
import Derived.Lib.IndexBytes
set_option linter.unusedVariables false
namespace Go.Proofs.YtogijkhenihaaaaGreatDoor
namespace Tk
/-- Letters, digits, what may stand within a word, signs, blanks: of a byte's number. -/
def isLetter (x:Nat):Bool:=decide (97≤x)&&decide (x≤122)||decide (65≤x)&&decide (x≤90)
def isDigit (x:Nat):Bool:=decide (48≤x)&&decide (x≤57)
def isInner (x:Nat):Bool:=isLetter x||isDigit x||decide (x=95)
def isSign (x:Nat):Bool:=decide (x=123)||decide (x=125)||decide (x=40)||decide (x=41)||decide (x=59)||decide (x=58)||decide (x=44)||decide (x=46)
def isBlank (x:Nat):Bool:=decide (x=32)||decide (x=9)||decide (x=10)||decide (x=13)
theorem or32_letter:∀ x,x<256→(decide (97≤x ||| 32)&&decide (x ||| 32≤122))=isLetter x:=by decide +kernel
theorem or32_lt:∀ x,x<256→x ||| 32<256:=by decide +kernel
/-- How many bytes of a list the gap has that it begins with; `true`: within a remark. -/
def gap:Bool→List UInt8→Nat
 | _,[]=>0
 | false,c::r=>if isBlank c.toNat then 1+gap false r else if c.toNat=47∧r.head?.map UInt8.toNat=some 47 then 1+gap true r else 0
 | true,c::r=>if c.toNat=10 then 1+gap false r else 1+gap true r
theorem gap_le:∀ (b:Bool) (l:List UInt8),gap b l≤l.length
 | _,[]=>by simp [gap]
 | false,c::r=>by
  have h1:=gap_le false r
  have h2:=gap_le true r
  unfold gap;simp only [List.length_cons]
  split
  ·omega
  ·split <;> omega
 | true,c::r=>by
  have h1:=gap_le false r
  have h2:=gap_le true r
  unfold gap;simp only [List.length_cons]
  split <;> omega
/-- A run: the bytes that are such, from the start. -/
def run (p:Nat→Bool):List UInt8→Nat
 | []=>0
 | c::r=>if p c.toNat then 1+run p r else 0
theorem run_le (p:Nat→Bool):∀ (l:List UInt8),run p l≤l.length
 | []=>by simp [run]
 | c::r=>by
  have h:=run_le p r
  unfold run;simp only [List.length_cons]
  split <;> omega
/-- The number that digits tell. -/
def numOn (n:Nat) (l:List UInt8):Nat:=l.foldl (fun n c=>10 * n+(c.toNat - 48)) n
/-- A text's bytes from a place. -/
def from_ (s:ByteArray) (k:Nat):List UInt8:=s.data.toList.drop k
theorem from_cons {s:ByteArray} {k:Nat} (h:k<s.size):from_ s k=s[k]::from_ s (k+1):=by
 unfold from_
 rw [List.drop_eq_getElem_cons (by simpa using h)]
 rfl
theorem from_end {s:ByteArray} {k:Nat} (h:s.size≤k):from_ s k=[]:=List.drop_of_length_le (by simpa using h)
/-- Where the gap ends that begins at a place. -/
def gapEnd (b:Bool) (s:ByteArray) (k:Nat):Nat:=k+gap b (from_ s k)
theorem gapEnd_end {s:ByteArray} {k:Nat} (b:Bool) (h:s.size≤k):gapEnd b s k=k:=by
 unfold gapEnd;rw [from_end h];cases b <;> simp [gap]
theorem gapEnd_blank {s:ByteArray} {k:Nat} (h:k<s.size) (hb:isBlank s[k].toNat=true):gapEnd false s k=gapEnd false s (k+1):=by
 unfold gapEnd;rw [from_cons h];simp only [gap,hb,if_true];omega
theorem gapEnd_stop {s:ByteArray} {k:Nat} (h:k<s.size) (hb:isBlank s[k].toNat=false) (h2:¬(s[k].toNat=47∧∃ h':k+1<s.size,s[k+1].toNat=47)):gapEnd false s k=k:=by
 unfold gapEnd;rw [from_cons h];simp only [gap,hb]
 rw [if_neg (by simp),if_neg]
 ·rfl
 ·rintro ⟨e1,e2⟩
  apply h2
  refine ⟨e1,?_⟩
  by_cases h':k+1<s.size
  ·rw [from_cons h'] at e2
   exact ⟨h',by simpa using e2⟩
  ·rw [from_end (by omega)] at e2
   simp at e2
theorem gapEnd_remark {s:ByteArray} {k:Nat} (h:k<s.size) (h':k+1<s.size) (e1:s[k].toNat=47) (e2:s[k+1].toNat=47):gapEnd false s k=gapEnd true s k:=by
 unfold gapEnd;rw [from_cons h];simp only [gap]
 rw [if_neg (by rw [e1];decide),if_pos,if_neg (by omega)]
 rw [from_cons h']
 exact ⟨e1,by simp [e2]⟩
theorem gapEnd_on {s:ByteArray} {k:Nat} (h:k<s.size) (e:s[k].toNat≠10):gapEnd true s k=gapEnd true s (k+1):=by
 unfold gapEnd;rw [from_cons h];simp only [gap];rw [if_neg e];omega
theorem gapEnd_line {s:ByteArray} {k:Nat} (h:k<s.size) (e:s[k].toNat=10):gapEnd true s k=gapEnd false s k:=by
 unfold gapEnd;rw [from_cons h];simp only [gap];rw [if_pos e,if_pos (by rw [e];decide)]
theorem gapEnd_le {s:ByteArray} {k:Nat} (b:Bool) (h:k≤s.size):gapEnd b s k≤s.size:=by
 have:=gap_le b (from_ s k)
 unfold gapEnd
 unfold from_ at this ⊢
 simp at this
 omega
theorem gapEnd_ge (b:Bool) (s:ByteArray) (k:Nat):k≤gapEnd b s k:=by unfold gapEnd;omega
/-- Where a run ends that begins at a place. -/
def runEnd (p:Nat→Bool) (s:ByteArray) (k:Nat):Nat:=k+run p (from_ s k)
theorem runEnd_end {p:Nat→Bool} {s:ByteArray} {k:Nat} (h:s.size≤k):runEnd p s k=k:=by
 unfold runEnd;rw [from_end h];simp [run]
theorem runEnd_on {p:Nat→Bool} {s:ByteArray} {k:Nat} (h:k<s.size) (e:p s[k].toNat=true):runEnd p s k=runEnd p s (k+1):=by
 unfold runEnd;rw [from_cons h];simp only [run,e,if_true];omega
theorem runEnd_stop {p:Nat→Bool} {s:ByteArray} {k:Nat} (h:k<s.size) (e:p s[k].toNat=false):runEnd p s k=k:=by
 unfold runEnd;rw [from_cons h];simp [run,e]
theorem runEnd_le {p:Nat→Bool} {s:ByteArray} {k:Nat} (h:k≤s.size):runEnd p s k≤s.size:=by
 have:=run_le p (from_ s k)
 unfold runEnd
 unfold from_ at this ⊢
 simp at this
 omega
theorem runEnd_ge (p:Nat→Bool) (s:ByteArray) (k:Nat):k≤runEnd p s k:=by unfold runEnd;omega
/-- The byte at a place, as a number. -/
def byte (s:ByteArray) (k:Nat):Nat:=(s.data.toList.getD k 0).toNat
theorem byte_eq {s:ByteArray} {k:Nat} (h:k<s.size):byte s k=s[k].toNat:=by
 unfold byte
 rw [List.getD_eq_getElem?_getD,List.getElem?_eq_getElem (by simpa using h)]
 rfl
/-- A token. -/
structure Tok where
 kind:Nat
 text:ByteArray
 num:Nat
 at_:Nat
/-- A token's value. -/
def Tok.val (t:Tok):Value:=.agg #[.int .u8 t.kind,.string t.text,.int .i64 t.num,.int .i64 t.at_]
def arrow:ByteArray:=⟨#[45,62]⟩
def empty:ByteArray:=⟨#[]⟩
/-- The number that the digits tell that stand from a place to another one. -/
def num (s:ByteArray) (k e:Nat):Nat:=numOn 0 ((s.data.toList.take e).drop k)
/-- The token at a place, and its fault's number (0: none). `d`: the kind of no token at all. -/
def oneAt (d:Nat) (s:ByteArray) (k:Nat):Tok × Nat :=
 if isLetter (byte s k) then
  let e:=runEnd isInner s (k+1)
  (⟨1,s.extract k e,0,k⟩,if 32<e - k then 3 else 0)
 else if isDigit (byte s k) then
  let e:=runEnd isDigit s (k+1)
  if 9<e - k then (⟨2,s.extract k e,0,k⟩,3)
  else if byte s k=48∧1<e - k then (⟨2,s.extract k e,0,k⟩,110)
  else (⟨2,s.extract k e,num s k e,k⟩,0)
 else if isSign (byte s k) then (⟨3,s.extract k (k+1),0,k⟩,0)
 else if byte s k=45∧k+1<s.size∧byte s (k+1)=62 then (⟨3,arrow,0,k⟩,0)
 else (⟨d,empty,0,k⟩,110)
end Tk
end Go.Proofs.YtogijkhenihaaaaGreatDoor
set_option linter.unusedVariables false
namespace Go.Proofs.YtogijkhenihaaaaGreatDoor
namespace Tk
theorem isBlank_no {x:Nat} (h:isBlank x=false):x≠32∧x≠9∧x≠10∧x≠13:=by
 unfold isBlank at h
 simp at h
 omega
theorem isBlank_yes {x:Nat} (h:isBlank x=true):x=32∨x=9∨x=10∨x=13:=by
 unfold isBlank at h
 simp at h
 omega
end Tk
namespace Tk
theorem sign_cases {x:Nat} (h:isSign x=true):x=123∨x=125∨x=40∨x=41∨x=59∨x=58∨x=44∨x=46:=by
 unfold isSign at h
 simp at h
 omega
theorem sign_none {x:Nat} (h:isSign x=false):x≠123∧x≠125∧x≠40∧x≠41∧x≠59∧x≠58∧x≠44∧x≠46:=by
 unfold isSign at h
 simp at h
 omega
end Tk
namespace Tk
theorem run_get (p:Nat→Bool):∀ (l:List UInt8) (i:Nat) (h:i<run p l) (h2:i<l.length),p l[i].toNat=true
 | [],i,h,h2=>by simp at h2
 | c::r,0,h,h2=>by
  unfold run at h
  by_cases e:p c.toNat=true
  ·exact e
  ·rw [if_neg e] at h;omega
 | c::r,i+1,h,h2=>by
  unfold run at h
  by_cases e:p c.toNat=true
  ·rw [if_pos e] at h
   exact run_get p r i (by omega) (by simpa using h2)
  ·rw [if_neg e] at h;omega
theorem runEnd_get {p:Nat→Bool} {s:ByteArray} {k m:Nat} (hk:k≤m) (hm:m<runEnd p s k) (hms:m<s.size):p s[m].toNat=true:=by
 have h:=run_get p (from_ s k) (m - k) (by unfold runEnd at hm;omega) (by unfold from_;simp;omega)
 unfold from_ at h
 rw [List.getElem_drop] at h
 have e:k+(m - k)=m:=by omega
 simp only [e] at h
 exact h
theorem num_start (s:ByteArray) (k:Nat):num s k k=0:=by
 unfold num
 rw [List.drop_of_length_le (by simp;omega)]
 rfl
theorem num_succ {s:ByteArray} {k m:Nat} (hk:k≤m) (hm:m<s.size):num s k (m+1)=10 * num s k m+(s[m].toNat - 48):=by
 unfold num
 have e1:s.data.toList.take (m+1)=s.data.toList.take m++[s[m]]:=by
  rw [List.take_succ_eq_append_getElem (by simpa using hm)];rfl
 rw [e1,List.drop_append_of_le_length (by simp;omega)]
 unfold numOn
 rw [List.foldl_append]
 rfl
theorem num_lt_succ {s:ByteArray} {k m:Nat} (hk:k≤m) (hm:m<s.size) (hd:isDigit s[m].toNat=true) (h:num s k m<10 ^ (m - k)):num s k (m+1)<10 ^ (m+1 - k):=by
 rw [num_succ hk hm,show m+1 - k=(m - k)+1 from by omega,Nat.pow_succ]
 unfold isDigit at hd
 simp at hd
 omega
theorem num_small {n d:Nat} (h:n<10 ^ d) (hd:d≤8):n<100000000:=by
 have:10 ^ d≤10 ^ 8:=Nat.pow_le_pow_right (by omega) hd
 omega
end Tk
namespace Tk
/-- The fault of a token that is too long. -/
def over (b n:Nat):Nat:=if b<n then 3 else 0
end Tk
end Go.Proofs.YtogijkhenihaaaaGreatDoor
set_option linter.unusedVariables false
namespace Go.Proofs.YtogijkhenihaaaaGreatDoor
open Go.RowKit
namespace Tk
/-- A token's four cells. -/
def Tok.cells (t:Tok):List Value:=[.int .u8 t.kind,.string t.text,.int .i64 t.num,.int .i64 t.at_]
/-- Tokens' cells. -/
def flat (l:List Tok):List Value:=l.flatMap Tok.cells
theorem flat_snoc (l:List Tok) (t:Tok):flat (l++[t])=flat l++t.cells:=by simp [flat]
/-- Turns: at a place (a gap's end), with the tokens so far: tokens, place of the fault, fault. -/
def scan (d:Nat) (s:ByteArray):Nat→Nat→List Tok→List Tok × Nat × Nat
 | 0,_,acc=>(acc,0,0)
 | f+1,k,acc=>if k<s.size then (if (oneAt d s k).2≠0 then ([],k,(oneAt d s k).2) else scan d s f (gapEnd false s (k+(oneAt d s k).1.text.size)) (acc++[(oneAt d s k).1])) else (acc,0,0)
/-- A text's tokens, or its first fault and where. -/
def all (s:ByteArray):List Tok × Nat × Nat:=if 65536<s.size then ([],0,3) else scan 3 s (s.size+1) (gapEnd false s 0) []
theorem oneAt_ok {d:Nat} {s:ByteArray} {k:Nat} (h:k<s.size) (h0:(oneAt d s k).2=0):1≤(oneAt d s k).1.text.size∧k+(oneAt d s k).1.text.size≤s.size:=by
 have a1:=runEnd_ge isInner s (k+1)
 have a2:=runEnd_le (p:=isInner) (s:=s) (k:=k+1) (by omega)
 have b1:=runEnd_ge isDigit s (k+1)
 have b2:=runEnd_le (p:=isDigit) (s:=s) (k:=k+1) (by omega)
 have hex:∀ e,(s.extract k e).size=min e s.size - k:=fun e=>by simp
 unfold oneAt at h0 ⊢
 split
 ·simp only [hex];omega
 ·split
  ·dsimp only
   split
   ·simp only [hex];omega
   ·split
    ·simp only [hex];omega
    ·simp only [hex];omega
  ·split
   ·simp only [hex];omega
   ·split
    ·rename_i hh
     have e:arrow.size=2:=rfl
     simp only [e];omega
    ·rename_i n1 n2 n3 n4
     rw [if_neg n1,if_neg n2,if_neg n3,if_neg n4] at h0
     simp at h0
end Tk
/-- A row of the call's own, behind calls that leave what lay there. -/
theorem Tk.row_below {w w1:World} {base:Nat} {e:TypeId} {size:Nat} {v:Value} {n:Nat} {xs:List Value} (h:w.ownsRow base e size v n xs) (hb:Below w.heap.size w w1):w1.ownsRow base e size v n xs:=by
 refine ⟨h.1,?_⟩
 rcases h.2 with hn | ⟨g,cap,cur,rfl,hbs,hgg,rest⟩
 ·exact .inl hn
 ·exact .inr ⟨g,cap,cur,rfl,hbs,by rw [hb.block g (Array.getElem?_eq_some_iff.1 hgg).1];exact hgg,rest⟩
theorem cells_four_new (w:World) (c0 c1 c2 c3:Value) (t:TypeId):∀ j u,[c0,c1,c2,c3][j]?=some u→(w.alloc (.cells #[c0,c1,c2,c3] t)).cell? ((⟨w.heap.size,0,none⟩:Addr).add j)=some u:=by
 intro j u h
 have e:((⟨w.heap.size,0,none⟩:Addr).add j)=⟨w.heap.size,j,none⟩:=by simp [Addr.add];omega
 rw [e,World.cell?_alloc_mark]
 simpa using h
/-- A token (four cells) appended to a row of the call's own. -/
theorem wpList_append_four {P:Program} {ops:Array Oper} {rest:List Oper} {o:Oper} {a:Act} {Q:Exit→Act→World→Prop} {w0:World} (hgd:o.guard=none) (s y:Operand) (t:TypeId)
  (ho:o.op=.call { callee:=.builtin .append,args:=#[s,y],argTypes:=#[t,t] })
  (base:Nat) (e:TypeId) (z:Value) (bytes:Nat) (ht:P.underlying t=some (.slice e)) (hi:(P.info? e).map (fun i=>(i.zero,i.size,i.bytes))=some (some z,4,bytes)) (hzs:z.cells.size=4)
  (v:Value) (n:Nat) (xs:List Value) (hs:a.eval s=v) (hown:w0.ownsRow base e 4 v n xs)
  (c0 c1 c2 c3:Value) (g:Nat) (hx:a.eval y=.slice (some ⟨g,0,none⟩) 1 1) (hg0:g=w0.heap.size) (h1:∀ u∈[c0,c1,c2,c3],u.oneCell'=true)
  (h63:n+1≤maxLen) (hbytes:(n+1) * bytes≤140737488355328) (hbase:base≤w0.heap.size)
  (h:∀ v' w',w'.ownsRow base e 4 v' (n+1) (xs++[c0,c1,c2,c3])→Below base w0 w'→(w0.alloc (.cells #[c0,c1,c2,c3] e)).grownBy w' v.ownBlock→wpList P ops Q rest (a.put o.dst v') w') :
  wpList P ops Q (o::rest) a (w0.alloc (.cells #[c0,c1,c2,c3] e)):=by
 subst hg0
 obtain ⟨i,hi0,hz0,hz1,hz2⟩:=info_parts hi
 refine wpList_append_own _ hgd s y t ho base e i z 4 bytes ht hi0 hz0 hz1 hz2 hzs (by decide) v n xs hs (hown.alloc _) ⟨w0.heap.size,0,none⟩ 1 1 [c0,c1,c2,c3] hx rfl (cells_four_new _ _ _ _ _ _) h1 h63 hbytes (by simp;omega) ?_
 intro v' w' hown' hg _
 exact h v' w' hown' (((Below.refl base w0).alloc hbase _).grown hg (by simp;omega) (fun k hk=>(hown.lt k hk).1)) hg
theorem info_tok:(Tryz.prog.info? 171).map (fun i=>(i.zero,i.size,i.bytes))=some (some (.agg #[.int .u8 0,.string ByteArray.empty,.int .i64 0,.int .i64 0]),4,40):=by kernel_rfl
end Go.Proofs.YtogijkhenihaaaaGreatDoor
set_option linter.unusedVariables false
namespace Go.Proofs.YtogijkhenihaaaaGreatDoor
open Go.RowKit
namespace Tk
/-- A slice of tokens, as it lies. -/
def ReadT (w:World) (A:Option Addr) (ls:List Tok):Prop:=0<ls.length→∃ g off,A=some ⟨g,off,none⟩∧∀ j (hj:j<ls.length),
 w.cell? ⟨g,off+j * 4,none⟩=some (.int .u8 ls[j].kind)∧w.cell? ⟨g,off+j * 4+1,none⟩=some (.string ls[j].text)∧w.cell? ⟨g,off+j * 4+2,none⟩=some (.int .i64 ls[j].num)∧w.cell? ⟨g,off+j * 4+3,none⟩=some (.int .i64 ls[j].at_)
theorem ReadT.drewN {w:World} {A:Option Addr} {ls:List Tok} (h:ReadT w A ls) (n:Nat):ReadT (w.drewN n) A ls:=h
end Tk
namespace Tk
theorem flat_drop:∀ (ls:List Tok) (j:Nat) (h:j<ls.length),(flat ls).drop (j * 4)=ls[j].cells++flat (ls.drop (j+1))
 | [],j,h=>by simp at h
 | t::ls,0,h=>by simp [flat]
 | t::ls,j+1,h=>by
  have ih:=flat_drop ls j (by simpa using h)
  have e:flat (t::ls)=t.cells++flat ls:=by simp [flat]
  have l4:t.cells.length=4:=rfl
  rw [e,List.drop_append,List.drop_of_length_le (by omega),List.nil_append,show (j+1) * 4 - t.cells.length=j * 4 from by omega,ih]
  simp
theorem flat_get {ls:List Tok} {j:Nat} (h:j<ls.length) (i:Nat) (hi:i<4):(flat ls)[j * 4+i]?=ls[j].cells[i]?:=by
 have l4:ls[j].cells.length=4:=rfl
 rw [←List.getElem?_drop,flat_drop ls j h,List.getElem?_append_left (by omega)]
theorem row_reads {w:World} {base:Nat} {v:Value} {ls:List Tok} (h:w.ownsRow base 171 4 v ls.length (flat ls)):∃ A c,v=.slice A ls.length c∧ReadT w A ls∧ls.length≤9223372036854775807:=by
 rcases h.2 with ⟨rfl,h0⟩ | ⟨g,cap,cur,rfl,hbs,hgg,hn,hc,_⟩
 ·exact ⟨none,0,by rw [h0],fun e=>by omega,by omega⟩
 ·refine ⟨some ⟨g,0,none⟩,cap,rfl,fun _=>⟨g,0,rfl,fun j hj=>?_⟩,by unfold maxLen at hc;omega⟩
  have hc:=h.cells (g:=g) rfl
  have key:∀ i (hi:i<4) u,ls[j].cells[i]?=some u→w.cell? ⟨g,0+j * 4+i,none⟩=some u:=by
   intro i hi u hu
   have:=hc (j * 4+i) u (by rw [flat_get hj i hi];exact hu)
   have hadd:(⟨g,0,none⟩:Addr).add (j * 4+i)=⟨g,j * 4+i,none⟩:=by unfold Addr.add;split <;> simp_all
   rw [hadd] at this
   rw [Nat.zero_add]
   exact this
  exact ⟨key 0 (by omega) _ rfl,key 1 (by omega) _ rfl,key 2 (by omega) _ rfl,key 3 (by omega) _ rfl⟩
end Tk
theorem Tk.ReadT.below {w w':World} {A:Option Addr} {ls:List Tk.Tok} (h:Tk.ReadT w A ls) (hb:Below w.heap.size w w'):Tk.ReadT w' A ls:=by
 intro h0
 obtain ⟨g,off,rfl,hc⟩:=h h0
 refine ⟨g,off,rfl,fun j hj=>?_⟩
 have key:∀ o v,w.cell? ⟨g,o,none⟩=some v→w'.cell? ⟨g,o,none⟩=some v:=fun o v hv=>by
  rw [hb.cell (p:=⟨g,o,none⟩) (World.block_lt_of_cell? w _ hv)];exact hv
 obtain ⟨h1,h2,h3,h4⟩:=hc j hj
 exact ⟨key _ _ h1,key _ _ h2,key _ _ h3,key _ _ h4⟩
end Go.Proofs.YtogijkhenihaaaaGreatDoor
set_option linter.unusedVariables false
namespace Go.Proofs.YtogijkhenihaaaaGreatDoor
open Go.RowKit
set_option linter.unusedSimpArgs false
theorem letter_any (x:Nat) (hx:x<256) (w:World) :
  Calls Tryz.prog 169 #[.int .u8 x] w fun e w'=>e=.returned (.bool (Tk.isLetter x))∧w=w':=by
 have e1:bits .or .u8 (x:Int) 32=((x ||| 32:Nat):Int):=u8_or_nat x 32 hx (by omega)
 have hl:=Tk.or32_letter x hx
 have hlt:=Tk.or32_lt x hx
 generalize x ||| 32=y at e1 hl hlt
 rw [←hl]
 clear hl
 go_enter Tryz.func169,Tryz.ntmps169
 by_cases h1:97≤y
 ·by_cases h2:y≤122
  ·go_wp2
   go_ret
   exact ⟨by first | rfl | (simp;done) | (simp [*];done) | (simp [*];omega) | (simp;omega) | (simp_all;omega),rfl⟩
  ·go_wp2
   go_ret
   exact ⟨by first | rfl | (simp;done) | (simp [*];done) | (simp [*];omega) | (simp;omega) | (simp_all;omega),rfl⟩
 ·go_wp2
  go_ret
  exact ⟨by first | rfl | (simp;done) | (simp [*];done) | (simp [*];omega) | (simp;omega) | (simp_all;omega),rfl⟩
theorem digit_any (x:Nat) (hx:x<256) (w:World) :
  Calls Tryz.prog 199 #[.int .u8 x] w fun e w'=>e=.returned (.bool (Tk.isDigit x))∧w=w':=by
 unfold Tk.isDigit
 go_enter Tryz.func199,Tryz.ntmps199
 by_cases h1:48≤x
 ·by_cases h2:x≤57
  ·go_wp2
   go_ret
   exact ⟨by first | rfl | (simp;done) | (simp [*];done) | (simp [*];omega) | (simp;omega) | (simp_all;omega),rfl⟩
  ·go_wp2
   go_ret
   exact ⟨by first | rfl | (simp;done) | (simp [*];done) | (simp [*];omega) | (simp;omega) | (simp_all;omega),rfl⟩
 ·go_wp2
  go_ret
  exact ⟨by first | rfl | (simp;done) | (simp [*];done) | (simp [*];omega) | (simp;omega) | (simp_all;omega),rfl⟩
theorem inner_any (x:Nat) (hx:x<256) (w:World) :
  Calls Tryz.prog 172 #[.int .u8 x] w fun e w'=>e=.returned (.bool (Tk.isInner x))∧w=w':=by
 unfold Tk.isInner
 cases h1:Tk.isLetter x
 ·cases h2:Tk.isDigit x
  ·go_enter Tryz.func172,Tryz.ntmps172
   go_wp2_with fail
   refine (letter_any x hx _).mono ?_
   rintro e w1 ⟨rfl,rfl⟩
   rw [h1]
   go_wp2_with fail
   refine (digit_any x hx _).mono ?_
   rintro e w1 ⟨rfl,rfl⟩
   rw [h2]
   by_cases h3:x=95
   ·go_wp2_with fail
    go_ret
    exact ⟨by first | rfl | (simp;done) | (simp [*];done) | (simp [*];omega) | (simp;omega) | (simp_all;omega),rfl⟩
   ·go_wp2_with fail
    go_ret
    exact ⟨by first | rfl | (simp;done) | (simp [*];done) | (simp [*];omega) | (simp;omega) | (simp_all;omega),rfl⟩
  ·go_enter Tryz.func172,Tryz.ntmps172
   go_wp2_with fail
   refine (letter_any x hx _).mono ?_
   rintro e w1 ⟨rfl,rfl⟩
   rw [h1]
   go_wp2_with fail
   refine (digit_any x hx _).mono ?_
   rintro e w1 ⟨rfl,rfl⟩
   rw [h2]
   go_wp2_with fail
   go_ret
   exact ⟨by simp,rfl⟩
 ·go_enter Tryz.func172,Tryz.ntmps172
  go_wp2_with fail
  refine (letter_any x hx _).mono ?_
  rintro e w1 ⟨rfl,rfl⟩
  rw [h1]
  go_wp2_with fail
  go_ret
  exact ⟨by simp,rfl⟩
end Go.Proofs.YtogijkhenihaaaaGreatDoor
set_option linter.unusedVariables false
namespace Go.Proofs.YtogijkhenihaaaaGreatDoor
open Go.RowKit
/-- Worlds that grow and write to one block. -/
theorem grown_refl (w:World) (r:Option Nat):w.grownBy w r:=⟨rfl,rfl,rfl,Nat.le_refl _,fun _ _ _=>rfl⟩
theorem grown_trans {a b c:World} {r:Option Nat} (h:a.grownBy b r) (k:b.grownBy c r):a.grownBy c r :=
 ⟨k.os.trans h.os,k.tape.trans h.tape,k.output.trans h.output,Nat.le_trans h.size k.size,fun i hi hn=>(k.block i (Nat.lt_of_lt_of_le hi h.size) hn).trans (h.block i hi hn)⟩
theorem grown_drewN (w:World) (n:Nat) (r:Option Nat):w.grownBy (w.drewN n) r:=⟨rfl,rfl,rfl,Nat.le_refl _,fun _ _ _=>rfl⟩
theorem grown_set (w:World) (b j:Nat) (v:Value):w.grownBy (w.setCell ⟨b,j,none⟩ v) (some b) :=
 ⟨rfl,rfl,rfl,by simp,fun k _ hne=>Below.heap_setCell _ _ _ _ (by intro e;exact hne (by rw [e]))⟩
theorem below_of_grown {w w':World} {b B:Nat} (h:w.grownBy w' (some b)) (hB:B≤b) (hb:b≤w.heap.size∨B≤w.heap.size):Below B w w' :=
 ⟨h.os,h.tape,h.output,h.size,fun k hk=>h.block k (by have:=h.size;omega) (by intro e;cases e;omega)⟩
/-- A quiet call behind draws. -/
theorem calls_q {P:Program} {f:FuncId} {args:Array Value} {w:World} {q n:Nat} {v:Value} (h:∀ w0:World,Calls P f args w0 fun e w'=>e=.returned v∧w'=w0) :
  Calls P f args (w.drewN (q+n)) fun e w''=>e=.returned v∧∃ m,w''=w.drewN (q+m) :=
 (h _).mono fun _ _ ⟨he,hm⟩=>⟨he,n,hm⟩
theorem calls_val {P:Program} {f:FuncId} {args:Array Value} {v v':Value} (h:∀ w0:World,Calls P f args w0 fun e w'=>e=.returned v∧w'=w0) (e:v=v') (w0:World) :
  Calls P f args w0 fun e w'=>e=.returned v'∧w'=w0:=by subst e;exact h w0
namespace Tk
/-- The reader's block. -/
def Rd (w:World) (b:Nat) (s:ByteArray) (k:Nat):Prop:=w.heap[b]?=some (.cells #[.string s,.int .i64 k] 235 (0,0))
theorem Rd.c0 {w:World} {b:Nat} {s:ByteArray} {k:Nat} (h:Rd w b s k):w.cell? ⟨b,0,none⟩=some (.string s):=by rw [cell_of_row w b 0 _ _ _ h];rfl
theorem Rd.c1 {w:World} {b:Nat} {s:ByteArray} {k:Nat} (h:Rd w b s k):w.cell? ⟨b,1,none⟩=some (.int .i64 k):=by rw [cell_of_row w b 1 _ _ _ h];rfl
theorem Rd.f1 {w:World} {b:Nat} {s:ByteArray} {k:Nat} (h:Rd w b s k):w.frozen? ⟨b,1,none⟩=false:=frozen_of_row w b 1 _ _ h
theorem Rd.drewN {w:World} {b:Nat} {s:ByteArray} {k:Nat} (h:Rd w b s k) (n:Nat):Rd (w.drewN n) b s k:=h
theorem Rd.lt {w:World} {b:Nat} {s:ByteArray} {k:Nat} (h:Rd w b s k):b<w.heap.size:=lt_of_block h
theorem Rd.set {w:World} {b:Nat} {s:ByteArray} {k:Nat} (h:Rd w b s k) (j:Nat):Rd (w.setCell ⟨b,1,none⟩ (.int .i64 j)) b s j:=by
 have hlt:=lt_of_block h
 unfold Rd at h
 have h':w.heap[b]=.cells #[.string s,.int .i64 k] 235 (0,0):=by simpa [Array.getElem?_eq_getElem hlt] using h
 show (w.heap.modify b _)[b]?=_
 rw [Array.getElem?_eq_getElem (by simpa using hlt),Array.getElem_modify_self,h']
 rfl
theorem Rd.grown {w w':World} {b:Nat} {s:ByteArray} {k:Nat} {r:Option Nat} (h:Rd w b s k) (hg:w.grownBy w' r) (hne:some b≠r):Rd w' b s k:=by
 unfold Rd;rw [hg.block b h.lt hne];exact h
theorem Rd.below {w w':World} {b:Nat} {s:ByteArray} {k:Nat} (h:Rd w b s k) (hg:Below w.heap.size w w'):Rd w' b s k:=by
 unfold Rd;rw [hg.block b h.lt];exact h
theorem gap_true (c:UInt8) (r:List UInt8):gap true (c::r)=if c.toNat=10 then 1+gap false r else 1+gap true r:=by rw [gap]
theorem ixb_cons (b c:UInt8) (l:List UInt8):Lib.indexByte (b::l) c=if b==c then 0 else if Lib.indexByte l c==-1 then -1 else Lib.indexByte l c+1:=rfl
theorem gap_blank10 (r:List UInt8):gap false (10::r)=1+gap false r:=by rw [gap];rfl
theorem gap_idx (l:List UInt8):gap true l=if Lib.indexByte l 10=-1 then l.length else (Lib.indexByte l 10).toNat+gap false (l.drop (Lib.indexByte l 10).toNat):=by
 induction l with
 | nil=>rfl
 | cons c r ih =>
  have hge:=Lib.indexByte_ge r 10
  rw [gap_true,ixb_cons]
  by_cases hc:c=10
  ·subst hc
   have e:((10:UInt8)==10)=true:=rfl
   simp only [e,if_true]
   rw [if_pos (show (10:UInt8).toNat=10 from rfl),if_neg (by omega)]
   simp [gap_blank10]
  ·have hn:c.toNat≠10:=fun e=>hc (by apply UInt8.toNat_inj.1;rw [e];rfl)
   rw [if_neg hn,ih]
   have hb:(c==10)=false:=by simpa using hc
   simp only [hb,Bool.false_eq_true,if_false]
   by_cases hm:Lib.indexByte r 10=-1
   ·simp [hm];omega
   ·rw [if_neg hm]
    have hb2:(Lib.indexByte r 10==-1)=false:=by simpa using hm
    simp only [hb2,Bool.false_eq_true,if_false]
    rw [if_neg (by omega),show (Lib.indexByte r 10+1).toNat=(Lib.indexByte r 10).toNat+1 from by omega,List.drop_succ_cons]
    omega
theorem indexByte_lt (l:List UInt8) (c:UInt8) (h:l≠[]):Lib.indexByte l c<l.length:=by
 induction l with
 | nil=>exact absurd rfl h
 | cons b r ih =>
  have hge:=Lib.indexByte_ge r c
  unfold Lib.indexByte
  simp only [List.length_cons]
  split
  ·omega
  ·split
   ·omega
   ·rename_i h1 h2
    by_cases hr:r=[]
    ·subst hr;exact absurd rfl h2
    ·have:=ih hr;omega
theorem extract_list (s:ByteArray) (k:Nat):(s.extract k s.size).data.toList=from_ s k:=by
 unfold from_;rw [Lib.extract_to_end]
theorem gapEnd_idx {s:ByteArray} {k:Nat} (h:k<s.size) {j:Nat} (e:Lib.indexByte (from_ s k) 10=(j:Int)):gapEnd true s k=gapEnd false s (k+j)∧k+j<s.size:=by
 have hl:=indexByte_lt (from_ s k) 10 (by rw [from_cons h];simp)
 have hlen:(from_ s k).length=s.size - k:=by unfold from_;simp
 have hg:=gap_idx (from_ s k)
 rw [e] at hg hl
 rw [if_neg (by omega)] at hg
 refine ⟨?_,by omega⟩
 unfold gapEnd
 rw [hg]
 simp only [Int.toNat_natCast]
 unfold from_
 rw [List.drop_drop]
 omega
theorem idx_pos {s:ByteArray} {k:Nat} (h:k<s.size) (hne:s[k]≠10) {j:Nat} (e:Lib.indexByte (from_ s k) 10=(j:Int)):1≤j:=by
 rw [from_cons h,ixb_cons] at e
 have hb:(s[k]==10)=false:=by simpa using hne
 have hge:=Lib.indexByte_ge (from_ s (k+1)) 10
 rw [if_neg (by simp [hb])] at e
 by_cases hm:Lib.indexByte (from_ s (k+1)) 10=-1
 ·rw [if_pos (by simp [hm])] at e;omega
 ·rw [if_neg (by simpa using hm)] at e;omega
theorem gapEnd_none {s:ByteArray} {k:Nat} (h:k≤s.size) (e:Lib.indexByte (from_ s k) 10=-1):gapEnd true s k=s.size:=by
 have hlen:(from_ s k).length=s.size - k:=by unfold from_;simp
 have hg:=gap_idx (from_ s k)
 rw [if_pos e] at hg
 unfold gapEnd
 omega
theorem prefix2 {s:ByteArray} {k:Nat} (a b:UInt8) (h:k<s.size):Lib.hasPrefix (from_ s k) [a,b]=true↔(s[k]=a∧∃ h':k+1<s.size,s[k+1]=b):=by
 unfold Lib.hasPrefix
 rw [from_cons h]
 by_cases h':k+1<s.size
 ·rw [from_cons h']
  simp only [List.isPrefixOf,Bool.and_true,Bool.and_eq_true,beq_iff_eq]
  constructor
  ·rintro ⟨h1,h2⟩;exact ⟨h1.symm,h',h2.symm⟩
  ·rintro ⟨h1,_,h2⟩;exact ⟨h1.symm,h2.symm⟩
 ·rw [from_end (by omega)]
  simp only [List.isPrefixOf,Bool.and_false]
  constructor
  ·intro e;cases e
  ·rintro ⟨_,h2,_⟩;exact absurd h2 h'
end Tk
end Go.Proofs.YtogijkhenihaaaaGreatDoor
set_option linter.unusedVariables false
namespace Go.Proofs.YtogijkhenihaaaaGreatDoor
open Go.RowKit
set_option maxRecDepth 100000 in
set_option maxHeartbeats 4000000 in
theorem skip_any (s:ByteArray) (hs:s.size≤maxLen) (b k:Nat) (hk:k≤s.size) (w:World) (h:Tk.Rd w b s k) :
  Calls Tryz.prog 198 #[.pointer (some ⟨b,0,none⟩)] w fun e w'=>e=.returned (.tuple #[])∧w.grownBy w' (some b)∧Tk.Rd w' b s (Tk.gapEnd false s k):=by
 have hs2:=hs
 unfold maxLen at hs
 go_enter Tryz.func198,Tryz.ntmps198
 go_wp2
 go_loopg [2] (s.size - k+1) (fun n c wr=>∃ j,n=s.size - j+1∧j≤s.size∧Tk.Rd wr b s j∧Hid (Tk.gapEnd false s k=Tk.gapEnd false s j)∧w.grownBy wr (some b))
 case atStart=>exact ⟨k,rfl,hk,h,Lib.hid rfl,grown_refl _ _⟩
 case round =>
  obtain ⟨j,rfl,hj,hR,HG,hgr⟩:=hrel
  have c0:=hR.c0
  have c1:=hR.c1
  have f1:=hR.f1
  by_cases hlt:j<s.size
  ·have hx:s[j].toNat<256:=s[j].toNat_lt
   have hji:(j:Int)<(s.size:Int):=by omega
   have hjs:(j:Int)+1≤9223372036854775807:=by omega
   go_wp2
   go_quiet (fail)
   go_wp2
   go_quiet (fail)
   cases hb:Tk.isBlank s[j].toNat
   ·obtain ⟨n1,n2,n3,n4⟩:=Tk.isBlank_no hb
    have t1:((s[j].toNat:Int)==32)=false:=by simp;omega
    have t2:((s[j].toNat:Int)==9)=false:=by simp;omega
    have t3:((s[j].toNat:Int)==10)=false:=by simp;omega
    have t4:((s[j].toNat:Int)==13)=false:=by simp;omega
    have hp:=Tk.prefix2 (s:=s) (k:=j) 47 47 hlt
    cases hpp:Lib.hasPrefix (Tk.from_ s j) [47,47]
    ·have HS:=Lib.hid (Tk.gapEnd_stop hlt hb (by
      rintro ⟨e1,h',e2⟩
      have:=hp.2 ⟨UInt8.toNat_inj.1 e1,h',UInt8.toNat_inj.1 e2⟩
      rw [hpp] at this;cases this))
     have HP:=Lib.hid hpp
     have HC:=Lib.hid (calls_val (Tryz.strings_HasPrefix (s.extract j s.size) ⟨#[47,47]⟩) (v':=.bool false) (by rw [Tk.extract_list,hpp]))
     clear hb n1 n2 n3 n4 hp hpp
     go_wp2
     go_quiet ((go_at_call 201;go_must (exact calls_q HC.out)))
     go_wp2
     (try simp only [Exit.inBlock,Exit.then])
     refine bodyPost_ret (results_none rfl _ _ _) rfl ?_
     exact ⟨rfl,(by repeat (first | exact hgr | refine grown_trans ?_ (grown_drewN _ _ _) | refine grown_trans ?_ (grown_set _ _ _ _))),by rw [HG.out,HS.out];exact hR⟩
    ·have hp':=hp.1 hpp
     obtain ⟨e1,h2,e2⟩:=hp'
     have HS:=Lib.hid (Tk.gapEnd_remark hlt h2 (by rw [e1];rfl) (by rw [e2];rfl))
     have HC:=Lib.hid (calls_val (Tryz.strings_HasPrefix (s.extract j s.size) ⟨#[47,47]⟩) (v':=.bool true) (by rw [Tk.extract_list,hpp]))
     clear hb n1 n2 n3 n4 hp hpp e2
     by_cases hi:Lib.indexByte (Tk.from_ s j) 10=-1
     ·have HD:=Lib.hid (calls_val (Tryz.strings_IndexByte (s.extract j s.size) 10) (v':=.int .i64 (-1)) (by rw [Tk.extract_list];exact congrArg _ hi))
      have HE:=Lib.hid (Tk.gapEnd_none hj hi)
      clear hi e1
      go_wp2
      go_quiet ((go_at_call 201;go_must (exact calls_q HC.out)))
      go_wp2
      go_quiet ((go_at_call 200;go_must (exact calls_q HD.out)))
      go_wp2
      go_roundg 1
      case rel=>exact ⟨s.size,by omega,Nat.le_refl _,Tk.Rd.set hR _,Lib.hid (by rw [HG.out,HS.out,HE.out,Tk.gapEnd_end _ (Nat.le_refl _)]),(by repeat (first | exact hgr | refine grown_trans ?_ (grown_drewN _ _ _) | refine grown_trans ?_ (grown_set _ _ _ _)))⟩
      case measure=>omega
     ·have hge:=Lib.indexByte_ge (Tk.from_ s j) 10
      obtain ⟨d,hd⟩:∃ d:Nat,Lib.indexByte (Tk.from_ s j) 10=(d:Int):=⟨(Lib.indexByte (Tk.from_ s j) 10).toNat,by omega⟩
      have HD:=Lib.hid (calls_val (Tryz.strings_IndexByte (s.extract j s.size) 10) (v':=.int .i64 d) (by rw [Tk.extract_list];exact congrArg _ hd))
      obtain ⟨he1,he2⟩:=Tk.gapEnd_idx hlt hd
      have hd1:=Tk.idx_pos hlt (by rw [e1];decide) hd
      have hjd:(j:Int)+(d:Int)≤9223372036854775807:=by omega
      have HE:=Lib.hid he1
      clear hi hge hd he1 e1
      go_wp2
      go_quiet ((go_at_call 201;go_must (exact calls_q HC.out)))
      go_wp2
      go_quiet ((go_at_call 200;go_must (exact calls_q HD.out)))
      go_wp2
      rw [show (j:Int)+(d:Int)=((j+d:Nat):Int) from by simp]
      go_roundg (s.size - (j+d)+1)
      case rel=>exact ⟨j+d,rfl,by omega,Tk.Rd.set hR _,Lib.hid (by rw [HG.out,HS.out,HE.out]),(by repeat (first | exact hgr | refine grown_trans ?_ (grown_drewN _ _ _) | refine grown_trans ?_ (grown_set _ _ _ _)))⟩
      case measure=>omega
   ·have HS:=Lib.hid (Tk.gapEnd_blank hlt hb)
    rcases Tk.isBlank_yes hb with h | h | h | h
    all_goals
     have ht:=Lib.hid h
     clear hb
     go_wp2
     rw [show (j:Int)+1=((j+1:Nat):Int) from by simp]
     go_roundg (s.size - (j+1)+1)
     case rel=>exact ⟨j+1,rfl,by omega,Tk.Rd.set hR _,Lib.hid (by rw [HG.out,HS.out]),(by repeat (first | exact hgr | refine grown_trans ?_ (grown_drewN _ _ _) | refine grown_trans ?_ (grown_set _ _ _ _)))⟩
     case measure=>omega
  ·obtain rfl:j=s.size:=by omega
   go_wp2
   go_quiet (fail)
   go_wp2
   go_end0
   exact ⟨rfl,(by repeat (first | exact hgr | refine grown_trans ?_ (grown_drewN _ _ _) | refine grown_trans ?_ (grown_set _ _ _ _))),by rw [HG.out,Tk.gapEnd_end _ (Nat.le_refl _)];exact hR⟩
end Go.Proofs.YtogijkhenihaaaaGreatDoor
set_option linter.unusedVariables false
namespace Go.Proofs.YtogijkhenihaaaaGreatDoor
open Go.RowKit
theorem run_callFunc_body {P : Program} {f : FuncId} {fn : Func} (hf : P.funcs[f]? = some fn) (hn : (fn.name == "runtime.NumGoroutine") = false) (hb : fn.body.isNone = false) (args : Array Value) (w : World) :
  (callFunc f args).run P w=.ok (.enter f args) w:=by
 have h1 : ¬ fn.name = "runtime.NumGoroutine" := by simpa using hn
 have h2:¬fn.body=none:=by intro e;rw [e] at hb;cases hb
 simp [callFunc,hf,h1,h2]
set_option maxRecDepth 100000 in
set_option maxHeartbeats 4000000 in
theorem run_any (f:FuncId) (p:Nat→Bool) (hc:∀ (args:Array Value) (w:World),(callFunc f args).run Tryz.prog w=.ok (.enter f args) w) (hf:Hid (∀ (x:Nat) (hx:x<256) (w:World),Calls Tryz.prog f #[.int .u8 x] w fun e w'=>e=.returned (.bool (p x))∧w'=w))
  (s:ByteArray) (hs:s.size≤maxLen) (b k:Nat) (hk:k≤s.size) (w:World) (h:Tk.Rd w b s k) :
  Calls Tryz.prog 171 #[.pointer (some ⟨b,0,none⟩),.func (.func f) #[] #[]] w fun e w'=>e=.returned (.string (s.extract k (Tk.runEnd p s k)))∧w.grownBy w' (some b)∧Tk.Rd w' b s (Tk.runEnd p s k):=by
 unfold maxLen at hs
 have c0:=h.c0
 have c1:=h.c1
 go_enter Tryz.func171,Tryz.ntmps171
 go_wp2
 clear c0 c1
 go_loopg [32] (s.size - k+1) (fun n c wr=>∃ j,n=s.size - j+1∧k≤j∧j≤s.size∧Tk.Rd wr b s j∧Hid (Tk.runEnd p s k=Tk.runEnd p s j)∧w.grownBy wr (some b))
 case atStart=>exact ⟨k,rfl,Nat.le_refl _,hk,h,Lib.hid rfl,grown_refl _ _⟩
 case round =>
  obtain ⟨j,rfl,hkj,hj,hR,HG,hgr⟩:=hrel
  have c0:=hR.c0
  have c1:=hR.c1
  have f1:=hR.f1
  by_cases hlt:j<s.size
  ·have hx:s[j].toNat<256:=s[j].toNat_lt
   have hji:(j:Int)<(s.size:Int):=by omega
   have hjs:(j:Int)+1≤9223372036854775807:=by omega
   cases hp:p s[j].toNat
   ·have HS:=Lib.hid (Tk.runEnd_stop (p:=p) hlt hp)
    have HC:=Lib.hid (calls_val (hf.out s[j].toNat hx) (v':=.bool false) (by rw [hp]))
    clear hp
    go_wp2
    go_quiet (go_must (first | exact calls_q HC.out | exact Calls.quiet_of_same (HC.out _)))
    go_wp2
    go_quiet (fail)
    go_wp2
    go_ret
    exact ⟨by rw [HG.out,HS.out];rfl,(by repeat (first | exact hgr | refine grown_trans ?_ (grown_drewN _ _ _) | refine grown_trans ?_ (grown_set _ _ _ _))),by rw [HG.out,HS.out];exact hR⟩
   ·have HS:=Lib.hid (Tk.runEnd_on (p:=p) hlt hp)
    have HC:=Lib.hid (calls_val (hf.out s[j].toNat hx) (v':=.bool true) (by rw [hp]))
    clear hp
    go_wp2
    go_quiet (go_must (first | exact calls_q HC.out | exact Calls.quiet_of_same (HC.out _)))
    go_wp2
    rw [show (j:Int)+1=((j+1:Nat):Int) from by simp]
    go_roundg (s.size - (j+1)+1)
    case rel=>exact ⟨j+1,rfl,by omega,by omega,Tk.Rd.set hR _,Lib.hid (by rw [HG.out,HS.out]),(by repeat (first | exact hgr | refine grown_trans ?_ (grown_drewN _ _ _) | refine grown_trans ?_ (grown_set _ _ _ _)))⟩
    case measure=>omega
  ·obtain rfl:j=s.size:=by omega
   have hki:(k:Int)≤(s.size:Int):=by omega
   go_wp2
   go_quiet (fail)
   go_wp2
   go_quiet (fail)
   go_wp2
   go_ret
   exact ⟨by rw [HG.out,Tk.runEnd_end (Nat.le_refl _)];rfl,(by repeat (first | exact hgr | refine grown_trans ?_ (grown_drewN _ _ _) | refine grown_trans ?_ (grown_set _ _ _ _))),by rw [HG.out,Tk.runEnd_end (Nat.le_refl _)];exact hR⟩
theorem run_inner (s:ByteArray) (hs:s.size≤maxLen) (b k:Nat) (hk:k≤s.size) (w:World) (h:Tk.Rd w b s k) :
  Calls Tryz.prog 171 #[.pointer (some ⟨b,0,none⟩),.func (.func 172) #[] #[]] w fun e w'=>e=.returned (.string (s.extract k (Tk.runEnd Tk.isInner s k)))∧w.grownBy w' (some b)∧Tk.Rd w' b s (Tk.runEnd Tk.isInner s k) :=
 run_any _ _ (run_callFunc_body Tryz.func172 (by kernel_rfl) (by kernel_rfl)) (Lib.hid fun x hx w=>(inner_any x hx w).mono fun _ _ h=>⟨h.1,h.2.symm⟩) s hs b k hk w h
end Go.Proofs.YtogijkhenihaaaaGreatDoor
set_option linter.unusedVariables false
set_option linter.unusedSimpArgs false
namespace Go.Proofs.YtogijkhenihaaaaGreatDoor
open Go.RowKit
theorem rletter_any (x:Nat) (hx:x<256) (w:World) :
  Calls Tryz.prog 239 #[.int .u8 x] w fun e w'=>e=.returned (.bool (Tk.isLetter x))∧w=w':=by
 unfold Tk.isLetter
 go_enter Tryz.func239,Tryz.ntmps239
 by_cases h1:97≤x
 ·by_cases h2:x≤122
  ·go_wp2
   go_ret
   exact ⟨by first | rfl | (simp;done) | (simp [*];done) | (simp [*];omega) | (simp;omega) | (simp_all;omega),rfl⟩
  ·have h3:¬x≤90:=by omega
   have h4:65≤x:=by omega
   go_wp2
   go_ret
   exact ⟨by first | rfl | (simp;done) | (simp [*];done) | (simp [*];omega) | (simp;omega) | (simp_all;omega),rfl⟩
 ·by_cases h3:65≤x
  ·by_cases h4:x≤90
   ·go_wp2
    go_ret
    exact ⟨by first | rfl | (simp;done) | (simp [*];done) | (simp [*];omega) | (simp;omega) | (simp_all;omega),rfl⟩
   ·go_wp2
    go_ret
    exact ⟨by first | rfl | (simp;done) | (simp [*];done) | (simp [*];omega) | (simp;omega) | (simp_all;omega),rfl⟩
  ·go_wp2
   go_ret
   exact ⟨by first | rfl | (simp;done) | (simp [*];done) | (simp [*];omega) | (simp;omega) | (simp_all;omega),rfl⟩
theorem rdigit_any (x:Nat) (hx:x<256) (w:World) :
  Calls Tryz.prog 240 #[.int .u8 x] w fun e w'=>e=.returned (.bool (Tk.isDigit x))∧w=w':=by
 unfold Tk.isDigit
 go_enter Tryz.func240,Tryz.ntmps240
 by_cases h1:48≤x
 ·by_cases h2:x≤57
  ·go_wp2
   go_ret
   exact ⟨by first | rfl | (simp;done) | (simp [*];done) | (simp [*];omega) | (simp;omega) | (simp_all;omega),rfl⟩
  ·go_wp2
   go_ret
   exact ⟨by first | rfl | (simp;done) | (simp [*];done) | (simp [*];omega) | (simp;omega) | (simp_all;omega),rfl⟩
 ·go_wp2
  go_ret
  exact ⟨by first | rfl | (simp;done) | (simp [*];done) | (simp [*];omega) | (simp;omega) | (simp_all;omega),rfl⟩
end Go.Proofs.YtogijkhenihaaaaGreatDoor
set_option linter.unusedVariables false
namespace Go.Proofs.YtogijkhenihaaaaGreatDoor
open Go.RowKit
namespace Tk
/-- The keywords. -/
def words:List ByteArray:=[⟨#[109,111,100,117,108,101]⟩,⟨#[114,101,99,111,114,100]⟩,⟨#[99,104,111,105,99,101]⟩,⟨#[115,101,114,118,105,99,101]⟩,⟨#[115,97,103,97]⟩,⟨#[100,111]⟩,⟨#[97,116]⟩,⟨#[117,110,100,111]⟩,⟨#[103,105,118,101]⟩,⟨#[116,97,107,101]⟩,⟨#[110,111,116,101]⟩,⟨#[110,111,110,101]⟩,⟨#[98,111,111,108]⟩,⟨#[105,110,116]⟩,⟨#[116,101,120,116]⟩,⟨#[108,105,115,116]⟩,⟨#[111,112,116]⟩]
/-- Is a text a keyword? -/
def isKw (s:ByteArray):Bool:=words.any (fun x=>s.toList==x.toList)
/-- The table of keywords, as it lies. -/
def KW (w:World):Prop:=0<w.heap.size∧∀ j,j<words.length→w.cell? ⟨0,0+j,none⟩=some (.string (words.getD j ByteArray.empty))
theorem KW.below {w w':World} (h:KW w) (hb:Below w.heap.size w w'):KW w' :=
 ⟨by have:=hb.size;have:=h.1;omega,fun j hj=>by rw [hb.cell (p:=⟨0,0+j,none⟩) h.1];exact h.2 j hj⟩
theorem KW.drewN {w:World} (h:KW w) (n:Nat):KW (w.drewN n):=h
theorem text_eq {a b:ByteArray} (h:a.toList=b.toList):a=b:=by
 rw [ByteArray.toList_eq,ByteArray.toList_eq] at h
 have h2:=Array.toList_inj.1 h
 cases a
 cases b
 simp only at h2
 rw [h2]
theorem contains_kw (s:ByteArray):Lib.containsS (words.take 17) s=isKw s:=by
 rw [Bool.eq_iff_iff,Lib.containsS_iff]
 unfold isKw
 rw [List.any_eq_true]
 constructor
 ·intro h
  exact ⟨s,h,beq_self_eq_true s.toList⟩
 ·rintro ⟨x,hx,e⟩
  rw [text_eq (eq_of_beq e)]
  exact hx
/-- A text is a name. -/
def isName (s:ByteArray):Bool:=decide (1≤s.size)&&decide (s.size≤32)&&isLetter (byte s 0)&&!isKw s&&decide (runEnd isInner s 0=s.size)
end Tk
set_option maxHeartbeats 1000000 in
theorem keyword_any (s:ByteArray) (w:World) (hk:Tk.KW w) :
  Calls Tryz.prog 170 #[.string s] w fun e w'=>e=.returned (.bool (Tk.isKw s))∧w'=w:=by
 have HC:=Lib.hid (Tryz.slices_Contains_string 0 0 17 17 Tk.words s w (by decide) (by decide) hk.2)
 have HK:=Lib.hid (Tk.contains_kw s)
 go_enter Tryz.func170,Tryz.ntmps170
 go_wp2_with fail
 refine (HC.out).mono ?_
 rintro e w1 ⟨rfl,rfl⟩
 rw [HK.out]
 go_wp2_with fail
 go_ret
 exact ⟨rfl,rfl⟩
set_option maxHeartbeats 1000000 in
theorem rkw_0 (w:World):Calls Tryz.prog 265 #[.string ⟨#[109,111,100,117,108,101]⟩] w fun e w'=>e=.returned (.bool true)∧w'=w:=by
 go_enter Tryz.func265,Tryz.ntmps265
 go_wp2
 go_ret
 exact ⟨rfl,rfl⟩
set_option maxHeartbeats 1000000 in
theorem rkw_1 (w:World):Calls Tryz.prog 265 #[.string ⟨#[114,101,99,111,114,100]⟩] w fun e w'=>e=.returned (.bool true)∧w'=w:=by
 go_enter Tryz.func265,Tryz.ntmps265
 go_wp2
 go_ret
 exact ⟨rfl,rfl⟩
set_option maxHeartbeats 1000000 in
theorem rkw_2 (w:World):Calls Tryz.prog 265 #[.string ⟨#[99,104,111,105,99,101]⟩] w fun e w'=>e=.returned (.bool true)∧w'=w:=by
 go_enter Tryz.func265,Tryz.ntmps265
 go_wp2
 go_ret
 exact ⟨rfl,rfl⟩
set_option maxHeartbeats 1000000 in
theorem rkw_3 (w:World):Calls Tryz.prog 265 #[.string ⟨#[115,101,114,118,105,99,101]⟩] w fun e w'=>e=.returned (.bool true)∧w'=w:=by
 go_enter Tryz.func265,Tryz.ntmps265
 go_wp2
 go_ret
 exact ⟨rfl,rfl⟩
set_option maxHeartbeats 1000000 in
theorem rkw_4 (w:World):Calls Tryz.prog 265 #[.string ⟨#[115,97,103,97]⟩] w fun e w'=>e=.returned (.bool true)∧w'=w:=by
 go_enter Tryz.func265,Tryz.ntmps265
 go_wp2
 go_ret
 exact ⟨rfl,rfl⟩
set_option maxHeartbeats 1000000 in
theorem rkw_5 (w:World):Calls Tryz.prog 265 #[.string ⟨#[100,111]⟩] w fun e w'=>e=.returned (.bool true)∧w'=w:=by
 go_enter Tryz.func265,Tryz.ntmps265
 go_wp2
 go_ret
 exact ⟨rfl,rfl⟩
set_option maxHeartbeats 1000000 in
theorem rkw_6 (w:World):Calls Tryz.prog 265 #[.string ⟨#[97,116]⟩] w fun e w'=>e=.returned (.bool true)∧w'=w:=by
 go_enter Tryz.func265,Tryz.ntmps265
 go_wp2
 go_ret
 exact ⟨rfl,rfl⟩
set_option maxHeartbeats 1000000 in
theorem rkw_7 (w:World):Calls Tryz.prog 265 #[.string ⟨#[117,110,100,111]⟩] w fun e w'=>e=.returned (.bool true)∧w'=w:=by
 go_enter Tryz.func265,Tryz.ntmps265
 go_wp2
 go_ret
 exact ⟨rfl,rfl⟩
set_option maxHeartbeats 1000000 in
theorem rkw_8 (w:World):Calls Tryz.prog 265 #[.string ⟨#[103,105,118,101]⟩] w fun e w'=>e=.returned (.bool true)∧w'=w:=by
 go_enter Tryz.func265,Tryz.ntmps265
 go_wp2
 go_ret
 exact ⟨rfl,rfl⟩
set_option maxHeartbeats 1000000 in
theorem rkw_9 (w:World):Calls Tryz.prog 265 #[.string ⟨#[116,97,107,101]⟩] w fun e w'=>e=.returned (.bool true)∧w'=w:=by
 go_enter Tryz.func265,Tryz.ntmps265
 go_wp2
 go_ret
 exact ⟨rfl,rfl⟩
set_option maxHeartbeats 1000000 in
theorem rkw_10 (w:World):Calls Tryz.prog 265 #[.string ⟨#[110,111,116,101]⟩] w fun e w'=>e=.returned (.bool true)∧w'=w:=by
 go_enter Tryz.func265,Tryz.ntmps265
 go_wp2
 go_ret
 exact ⟨rfl,rfl⟩
set_option maxHeartbeats 1000000 in
theorem rkw_11 (w:World):Calls Tryz.prog 265 #[.string ⟨#[110,111,110,101]⟩] w fun e w'=>e=.returned (.bool true)∧w'=w:=by
 go_enter Tryz.func265,Tryz.ntmps265
 go_wp2
 go_ret
 exact ⟨rfl,rfl⟩
set_option maxHeartbeats 1000000 in
theorem rkw_12 (w:World):Calls Tryz.prog 265 #[.string ⟨#[98,111,111,108]⟩] w fun e w'=>e=.returned (.bool true)∧w'=w:=by
 go_enter Tryz.func265,Tryz.ntmps265
 go_wp2
 go_ret
 exact ⟨rfl,rfl⟩
set_option maxHeartbeats 1000000 in
theorem rkw_13 (w:World):Calls Tryz.prog 265 #[.string ⟨#[105,110,116]⟩] w fun e w'=>e=.returned (.bool true)∧w'=w:=by
 go_enter Tryz.func265,Tryz.ntmps265
 go_wp2
 go_ret
 exact ⟨rfl,rfl⟩
set_option maxHeartbeats 1000000 in
theorem rkw_14 (w:World):Calls Tryz.prog 265 #[.string ⟨#[116,101,120,116]⟩] w fun e w'=>e=.returned (.bool true)∧w'=w:=by
 go_enter Tryz.func265,Tryz.ntmps265
 go_wp2
 go_ret
 exact ⟨rfl,rfl⟩
set_option maxHeartbeats 1000000 in
theorem rkw_15 (w:World):Calls Tryz.prog 265 #[.string ⟨#[108,105,115,116]⟩] w fun e w'=>e=.returned (.bool true)∧w'=w:=by
 go_enter Tryz.func265,Tryz.ntmps265
 go_wp2
 go_ret
 exact ⟨rfl,rfl⟩
set_option maxHeartbeats 1000000 in
theorem rkw_16 (w:World):Calls Tryz.prog 265 #[.string ⟨#[111,112,116]⟩] w fun e w'=>e=.returned (.bool true)∧w'=w:=by
 go_enter Tryz.func265,Tryz.ntmps265
 go_wp2
 go_ret
 exact ⟨rfl,rfl⟩
set_option maxHeartbeats 1000000 in
theorem rkw_no (s:ByteArray) (w:World) (h0:(s.toList==[109,111,100,117,108,101])=false) (h1:(s.toList==[114,101,99,111,114,100])=false) (h2:(s.toList==[99,104,111,105,99,101])=false) (h3:(s.toList==[115,101,114,118,105,99,101])=false) (h4:(s.toList==[115,97,103,97])=false) (h5:(s.toList==[100,111])=false) (h6:(s.toList==[97,116])=false) (h7:(s.toList==[117,110,100,111])=false) (h8:(s.toList==[103,105,118,101])=false) (h9:(s.toList==[116,97,107,101])=false) (h10:(s.toList==[110,111,116,101])=false) (h11:(s.toList==[110,111,110,101])=false) (h12:(s.toList==[98,111,111,108])=false) (h13:(s.toList==[105,110,116])=false) (h14:(s.toList==[116,101,120,116])=false) (h15:(s.toList==[108,105,115,116])=false) (h16:(s.toList==[111,112,116])=false) :
  Calls Tryz.prog 265 #[.string s] w fun e w'=>e=.returned (.bool false)∧w'=w:=by
 go_enter Tryz.func265,Tryz.ntmps265
 go_wp2
 go_ret
 exact ⟨rfl,rfl⟩
theorem rkeyword_any (s:ByteArray) (w:World) :
  Calls Tryz.prog 265 #[.string s] w fun e w'=>e=.returned (.bool (Tk.isKw s))∧w'=w:=by
 cases hk:Tk.isKw s
 ·unfold Tk.isKw Tk.words at hk
  simp only [List.any_cons,List.any_nil,Bool.or_false,Bool.or_eq_false_iff,ByteArray.toList_mk] at hk
  obtain ⟨h0,h1,h2,h3,h4,h5,h6,h7,h8,h9,h10,h11,h12,h13,h14,h15,h16⟩:=hk
  exact rkw_no s w h0 h1 h2 h3 h4 h5 h6 h7 h8 h9 h10 h11 h12 h13 h14 h15 h16
 ·unfold Tk.isKw Tk.words at hk
  simp only [List.any_cons,List.any_nil,Bool.or_false,Bool.or_eq_true,beq_iff_eq] at hk
  rcases hk with h | h | h | h | h | h | h | h | h | h | h | h | h | h | h | h | h
  ·rw [Tk.text_eq h];exact rkw_0 w
  ·rw [Tk.text_eq h];exact rkw_1 w
  ·rw [Tk.text_eq h];exact rkw_2 w
  ·rw [Tk.text_eq h];exact rkw_3 w
  ·rw [Tk.text_eq h];exact rkw_4 w
  ·rw [Tk.text_eq h];exact rkw_5 w
  ·rw [Tk.text_eq h];exact rkw_6 w
  ·rw [Tk.text_eq h];exact rkw_7 w
  ·rw [Tk.text_eq h];exact rkw_8 w
  ·rw [Tk.text_eq h];exact rkw_9 w
  ·rw [Tk.text_eq h];exact rkw_10 w
  ·rw [Tk.text_eq h];exact rkw_11 w
  ·rw [Tk.text_eq h];exact rkw_12 w
  ·rw [Tk.text_eq h];exact rkw_13 w
  ·rw [Tk.text_eq h];exact rkw_14 w
  ·rw [Tk.text_eq h];exact rkw_15 w
  ·rw [Tk.text_eq h];exact rkw_16 w
end Go.Proofs.YtogijkhenihaaaaGreatDoor
set_option linter.unusedVariables false
namespace Go.Proofs.YtogijkhenihaaaaGreatDoor
open Go.RowKit
namespace Tk
theorem whole_cut (s:ByteArray) (E:Nat) (hE:E≤s.size):((s.extract 0 E).toList==s.toList)=decide (E=s.size):=by
 by_cases h:E=s.size
 ·subst h
  rw [decide_eq_true rfl]
  simp
 ·rw [decide_eq_false h]
  have:(s.extract 0 E).toList≠s.toList:=by
   intro e
   have:=congrArg ByteArray.size (text_eq e)
   simp at this
   omega
  simpa using this
theorem isName_short {s:ByteArray} (h:s.size<1∨32<s.size):isName s=false:=by
 unfold isName
 rcases h with h | h
 ·rw [decide_eq_false (by omega)];rfl
 ·rw [decide_eq_false (p:=s.size≤32) (by omega)];simp
end Tk
set_option maxRecDepth 100000 in
set_option maxHeartbeats 2000000 in
theorem name_any (s:ByteArray) (w:World) (hk:Tk.KW w) :
  Calls Tryz.prog 105 #[.string s] w fun e w'=>e=.returned (.bool (Tk.isName s))∧Below w.heap.size w w':=by
 by_cases h1:s.size<1
 ·have HN:=Lib.hid (Tk.isName_short (.inl h1))
  rw [HN.out]
  go_enter Tryz.func105,Tryz.ntmps105
  go_wp2_with fail
  go_ret
  exact ⟨rfl,Below.refl _ _⟩
 ·by_cases h2:32<s.size
  ·have HN:=Lib.hid (Tk.isName_short (.inr h2))
   rw [HN.out]
   go_enter Tryz.func105,Tryz.ntmps105
   go_wp2_with fail
   go_ret
   exact ⟨rfl,Below.refl _ _⟩
  ·have h0:0<s.size:=by omega
   have hx:s[0].toNat<256:=s[0].toNat_lt
   have hb0:=Tk.byte_eq h0
   have h0i:(0:Int)<(s.size:Int):=by omega
   cases hL:Tk.isLetter s[0].toNat
   ·have HN:Hid (Tk.isName s=false):=Lib.hid (by unfold Tk.isName;rw [hb0,hL];simp)
    have HL:=Lib.hid hL
    clear hL hb0
    rw [HN.out]
    go_enter Tryz.func105,Tryz.ntmps105
    go_wp2_with fail
    refine (letter_any _ hx _).mono ?_
    rintro e w1 ⟨rfl,rfl⟩
    rw [HL.out]
    go_wp2_with fail
    go_ret
    exact ⟨rfl,Below.refl _ _⟩
   ·cases hK:Tk.isKw s
    ·have HN:Hid (Tk.isName s=decide (Tk.runEnd Tk.isInner s 0=s.size)):=Lib.hid (by unfold Tk.isName;rw [hb0,hL,hK,decide_eq_true (by omega),decide_eq_true (p:=s.size≤32) (by omega)];simp)
     have HL:=Lib.hid hL
     have HK:=Lib.hid hK
     have HW:=Lib.hid (Tk.whole_cut s (Tk.runEnd Tk.isInner s 0) (Tk.runEnd_le (by omega)))
     clear hL hb0 hK
     rw [HN.out]
     go_enter Tryz.func105,Tryz.ntmps105
     go_wp2_with fail
     refine (letter_any _ hx _).mono ?_
     rintro e w1 ⟨rfl,rfl⟩
     rw [HL.out]
     go_wp2_with fail
     refine (keyword_any s _ hk).mono ?_
     rintro e w1 ⟨rfl,rfl⟩
     rw [HK.out]
     go_wp2_with fail
     refine (run_inner s (by unfold maxLen;omega) _ 0 (by omega) _ (heap_alloc_new _ _)).mono ?_
     rintro e w2 ⟨rfl,hg,hR⟩
     go_wp2_with fail
     go_ret
     refine ⟨by first | rfl | (rw [HW.out];rfl),?_⟩
     exact ((Below.refl _ _).alloc (Nat.le_refl _) _).trans (below_of_grown hg (Nat.le_refl _) (.inr (by simp)))
    ·have HN:Hid (Tk.isName s=false):=Lib.hid (by unfold Tk.isName;rw [hK];simp)
     have HL:=Lib.hid hL
     have HK:=Lib.hid hK
     clear hL hb0 hK
     rw [HN.out]
     go_enter Tryz.func105,Tryz.ntmps105
     go_wp2_with fail
     refine (letter_any _ hx _).mono ?_
     rintro e w1 ⟨rfl,rfl⟩
     rw [HL.out]
     go_wp2_with fail
     refine (keyword_any s _ hk).mono ?_
     rintro e w1 ⟨rfl,rfl⟩
     rw [HK.out]
     go_wp2_with fail
     go_ret
     exact ⟨rfl,Below.refl _ _⟩
set_option maxRecDepth 100000 in
set_option maxHeartbeats 2000000 in
theorem rname_any (s:ByteArray) (w:World) :
  Calls Tryz.prog 241 #[.string s] w fun e w'=>e=.returned (.bool (Tk.isName s))∧w'=w:=by
 by_cases h1:s.size<1
 ·have HN:=Lib.hid (Tk.isName_short (.inl h1))
  have t0:((s.size:Int)==0)=true:=beq_iff_eq.2 (by omega)
  rw [HN.out]
  go_enter Tryz.func241,Tryz.ntmps241
  go_wp2_with fail
  go_ret
  exact ⟨rfl,rfl⟩
 ·have t0:((s.size:Int)==0)=false:=beq_eq_false_iff_ne.2 (by omega)
  by_cases h2:32<s.size
  ·have HN:=Lib.hid (Tk.isName_short (.inr h2))
   rw [HN.out]
   go_enter Tryz.func241,Tryz.ntmps241
   go_wp2_with fail
   go_ret
   exact ⟨rfl,rfl⟩
  ·have h0:0<s.size:=by omega
   have hx:s[0].toNat<256:=s[0].toNat_lt
   have hb0:=Tk.byte_eq h0
   have h0i:(0:Int)<(s.size:Int):=by omega
   cases hL:Tk.isLetter s[0].toNat
   ·have HN:Hid (Tk.isName s=false):=Lib.hid (by unfold Tk.isName;rw [hb0,hL];simp)
    have HL:=Lib.hid hL
    clear hL hb0
    rw [HN.out]
    go_enter Tryz.func241,Tryz.ntmps241
    go_wp2_with fail
    refine (rletter_any _ hx _).mono ?_
    rintro e w1 ⟨rfl,rfl⟩
    rw [HL.out]
    go_wp2_with fail
    go_ret
    exact ⟨rfl,rfl⟩
   ·cases hK:Tk.isKw s
    ·have HN:Hid (Tk.isName s=decide (Tk.runEnd Tk.isInner s 1=s.size)):=Lib.hid (by
      unfold Tk.isName
      rw [hb0,hL,hK,decide_eq_true (by omega),decide_eq_true (p:=s.size≤32) (by omega),Tk.runEnd_on (p:=Tk.isInner) h0 (by unfold Tk.isInner;rw [hL];rfl)]
      simp)
     have HL:=Lib.hid hL
     have HK:=Lib.hid hK
     clear hL hb0 hK
     rw [HN.out]
     clear HN
     go_enter Tryz.func241,Tryz.ntmps241
     go_wp2_with fail
     refine (rletter_any _ hx _).mono ?_
     rintro e w1 ⟨rfl,rfl⟩
     rw [HL.out]
     go_wp2_with fail
     refine (rkeyword_any s _).mono ?_
     rintro e w1 ⟨rfl,rfl⟩
     rw [HK.out]
     go_wp2_with fail
     go_loop [3] (fun i=>∃ m:Nat,1≤m∧m≤s.size∧i=.int .i64 m∧Hid (Tk.runEnd Tk.isInner s 1=Tk.runEnd Tk.isInner s m)) (fun i=>s.size - (intOf i).toNat)
     case atStart=>exact ⟨1,by omega,by omega,rfl,Lib.hid rfl⟩
     case round =>
      obtain ⟨m,hm1,hm,rfl,HM⟩:=hrel
      by_cases hml:m<s.size
      ·have hx2:s[m].toNat<256:=s[m].toNat_lt
       have hmi:(m:Int)<(s.size:Int):=by omega
       cases h1:Tk.isLetter s[m].toNat
       ·have H1:=Lib.hid h1
        cases h2:Tk.isDigit s[m].toNat
        ·have H2:=Lib.hid h2
         by_cases h3:s[m].toNat=95
         ·have HE:=Lib.hid (Tk.runEnd_on (p:=Tk.isInner) hml (by unfold Tk.isInner;rw [h1,h2,h3];rfl))
          have t1:((s[m].toNat:Int)==95)=true:=by simp;omega
          have t2:((s[m].toNat:Int) != 95)=false:=by simp;omega
          clear h1 h2 h3
          go_wp2_with fail
          refine (rletter_any _ hx2 _).mono ?_
          rintro e w1 ⟨rfl,rfl⟩
          rw [H1.out]
          go_wp2_with fail
          refine (rdigit_any _ hx2 _).mono ?_
          rintro e w1 ⟨rfl,rfl⟩
          rw [H2.out]
          go_wp2_with fail
          go_round
          case rel=>exact ⟨m+1,by omega,by omega,by go_num,Lib.hid (by rw [HM.out,HE.out])⟩
          case measure=>simp [intOf];omega
         ·have HE:=Lib.hid (Tk.runEnd_stop (p:=Tk.isInner) hml (by unfold Tk.isInner;rw [h1,h2];simp [h3]))
          have t1:((s[m].toNat:Int)==95)=false:=by simp;omega
          have t2:((s[m].toNat:Int) != 95)=true:=by simp;omega
          clear h1 h2 h3
          go_wp2_with fail
          refine (rletter_any _ hx2 _).mono ?_
          rintro e w1 ⟨rfl,rfl⟩
          rw [H1.out]
          go_wp2_with fail
          refine (rdigit_any _ hx2 _).mono ?_
          rintro e w1 ⟨rfl,rfl⟩
          rw [H2.out]
          go_wp2_with fail
          go_ret
          exact ⟨by rw [HM.out,HE.out,decide_eq_false (p:=m=s.size) (by omega)];rfl,rfl⟩
        ·have H2:=Lib.hid h2
         have HE:=Lib.hid (Tk.runEnd_on (p:=Tk.isInner) hml (by unfold Tk.isInner;rw [h1,h2];rfl))
         clear h1 h2
         go_wp2_with fail
         refine (rletter_any _ hx2 _).mono ?_
         rintro e w1 ⟨rfl,rfl⟩
         rw [H1.out]
         go_wp2_with fail
         refine (rdigit_any _ hx2 _).mono ?_
         rintro e w1 ⟨rfl,rfl⟩
         rw [H2.out]
         go_wp2_with fail
         go_round
         case rel=>exact ⟨m+1,by omega,by omega,by go_num,Lib.hid (by rw [HM.out,HE.out])⟩
         case measure=>simp [intOf];omega
       ·have H1:=Lib.hid h1
        have HE:=Lib.hid (Tk.runEnd_on (p:=Tk.isInner) hml (by unfold Tk.isInner;rw [h1];rfl))
        clear h1
        go_wp2_with fail
        refine (rletter_any _ hx2 _).mono ?_
        rintro e w1 ⟨rfl,rfl⟩
        rw [H1.out]
        go_wp2_with fail
        go_round
        case rel=>exact ⟨m+1,by omega,by omega,by go_num,Lib.hid (by rw [HM.out,HE.out])⟩
        case measure=>simp [intOf];omega
      ·obtain rfl:m=s.size:=by omega
       clear hml
       go_wp2_with fail
       go_ret
       exact ⟨by rw [HM.out,Tk.runEnd_end (Nat.le_refl _),decide_eq_true (p:=s.size=s.size) rfl];rfl,rfl⟩
    ·have HN:Hid (Tk.isName s=false):=Lib.hid (by unfold Tk.isName;rw [hK];simp)
     have HL:=Lib.hid hL
     have HK:=Lib.hid hK
     clear hL hb0 hK
     rw [HN.out]
     go_enter Tryz.func241,Tryz.ntmps241
     go_wp2_with fail
     refine (rletter_any _ hx _).mono ?_
     rintro e w1 ⟨rfl,rfl⟩
     rw [HL.out]
     go_wp2_with fail
     refine (rkeyword_any s _).mono ?_
     rintro e w1 ⟨rfl,rfl⟩
     rw [HK.out]
     go_wp2_with fail
     go_ret
     exact ⟨rfl,rfl⟩
end Go.Proofs.YtogijkhenihaaaaGreatDoor
