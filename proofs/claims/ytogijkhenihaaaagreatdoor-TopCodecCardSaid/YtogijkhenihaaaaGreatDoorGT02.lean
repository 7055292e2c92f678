import Derived.Test.YtogijkhenihaaaaGreatDoorGT00
import Derived.Test.YtogijkhenihaaaaGreatDoorGT01
import Derived.Deep.QuietTactic
import Derived.Lib.Bytealg
import Derived.Lib.IndexBytes
import Derived.Lib.AppendStr
import Derived.Laws.Bits64
import Derived.Laws.BitsAllLaws
import Derived.Laws.BitsLemmas
set_option linter.all false
set_option maxRecDepth 100000
set_option maxHeartbeats 0
namespace Go.Proofs.YtogijkhenihaaaaGreatDoor
open Lib (hid)
namespace Tk
def cZ(x:Nat):Bool:=decide (97<=x)&&decide (x<=122)||decide (65<=x)&&decide (x<=90)
def isDigit(x:Nat):Bool:=decide (48<=x)&&decide (x<=57)
def aW(x:Nat):Bool:=cZ x||isDigit x||decide (x=95)
def kG(x:Nat):Bool:=decide (x=123)||decide (x=125)||decide (x=40)||decide (x=41)||decide (x=59)||decide (x=58)||decide (x=44)||decide (x=46)
def kK(x:Nat):Bool:=decide (x=32)||decide (x=9)||decide (x=10)||decide (x=13)
theorem LU:∀ x,x<256->(decide (97<=x ||| 32)&&decide (x ||| 32<=122))=cZ x:=by decide +kernel
theorem Xa:∀ x,x<256->x ||| 32<256:=by decide +kernel
def gap:Bool->List UInt8->Nat
 |_,[]=>0
 |false,c::r=>if kK c.toNat then 1+gap false r else if c.toNat=47/\r.head?.map UInt8.toNat=some 47 then 1+gap true r else 0
 |true,c::r=>if c.toNat=10 then 1+gap false r else 1+gap true r
theorem pV:∀(b:Bool)(l:List UInt8),gap b l<=l.length
 |_,[]=>by simp[gap]
 |false,c::r=>by
  have h1:=pV false r;have h2:=pV true r;unfold gap;simp only[xJ];split
  ·omega
  ·split<;>omega
 |true,c::r=>by
  have h1:=pV false r;have h2:=pV true r;unfold gap;simp only[xJ];split<;>omega
def run(p:Nat->Bool):List UInt8->Nat
 |[]=>0
 |c::r=>if p c.toNat then 1+run p r else 0
theorem QS(p:Nat->Bool):∀(l:List UInt8),run p l<=l.length
 |[]=>by simp[run]
 |c::r=>by
  have h:=QS p r;unfold run;simp only[xJ];split<;>omega
def OO(n:Nat)(l:List UInt8):Nat:=l.foldl (λn c=>10 * n+(c.toNat - 48)) n
def from_(s:ByteArray)(k:Nat):List UInt8:=s.data.toList.drop k
theorem iy{s:ByteArray}{k:Nat}(h:k<s.size):from_ s k=s[k]::from_ s (k+1):=by
 unfold from_;rw[xQ (by simpa using h)];rfl
theorem zK{s:ByteArray}{k:Nat}(h:s.size<=k):from_ s k=[]:=xP (by simpa using h)
def aP(b:Bool)(s:ByteArray)(k:Nat):Nat:=k+gap b (from_ s k)
theorem lQ{s:ByteArray}{k:Nat}(b:Bool)(h:s.size<=k):aP b s k=k:=by
 unfold aP;rw[zK h];cases b<;>simp[gap]
theorem vI{s:ByteArray}{k:Nat}(h:k<s.size)(hb:kK s[k].toNat=true):aP false s k=aP false s (k+1):=by
 unfold aP;rw[iy h];simp only[gap,hb,if_true];omega
theorem pW{s:ByteArray}{k:Nat}(h:k<s.size)(hb:kK s[k].toNat=false)(h2:¬(s[k].toNat=47/\∃ h':k+1<s.size,s[k+1].toNat=47)):aP false s k=k:=by
 unfold aP;rw[iy h];simp only[gap,hb];rw[if_neg (by simp),if_neg]
 ·rfl
 ·rintro⟨e1,e2⟩
  apply h2;refine⟨e1,?_⟩;by_cases h':k+1<s.size
  ·rw[iy h']at e2
   exact⟨h',by simpa using e2⟩
  ·rw[zK (by omega)]at e2
   simp at e2
theorem Ag{s:ByteArray}{k:Nat}(h:k<s.size)(h':k+1<s.size)(e1:s[k].toNat=47)(e2:s[k+1].toNat=47):aP false s k=aP true s k:=by
 unfold aP;rw[iy h];simp only[gap];rw[if_neg (by rw[e1];decide),if_pos,if_neg (by omega)];rw[iy h'];exact⟨e1,by simp[e2]⟩
theorem SA{s:ByteArray}{k:Nat}(h:k<s.size)(e:s[k].toNat≠10):aP true s k=aP true s (k+1):=by
 unfold aP;rw[iy h];simp only[gap];rw[if_neg e];omega
theorem LZ{s:ByteArray}{k:Nat}(h:k<s.size)(e:s[k].toNat=10):aP true s k=aP false s k:=by
 unfold aP;rw[iy h];simp only[gap];rw[if_pos e,if_pos (by rw[e];decide)]
theorem qA{s:ByteArray}{k:Nat}(b:Bool)(h:k<=s.size):aP b s k<=s.size:=by
 have:=pV b (from_ s k);unfold aP;unfold from_ at this ⊢;simp at this;omega
theorem lF(b:Bool)(s:ByteArray)(k:Nat):k<=aP b s k:=by unfold aP;omega
def aX(p:Nat->Bool)(s:ByteArray)(k:Nat):Nat:=k+run p (from_ s k)
theorem qJ{p:Nat->Bool}{s:ByteArray}{k:Nat}(h:s.size<=k):aX p s k=k:=by
 unfold aX;rw[zK h];simp[run]
theorem ig{p:Nat->Bool}{s:ByteArray}{k:Nat}(h:k<s.size)(e:p s[k].toNat=true):aX p s k=aX p s (k+1):=by
 unfold aX;rw[iy h];simp only[run,e,if_true];omega
theorem rV{p:Nat->Bool}{s:ByteArray}{k:Nat}(h:k<s.size)(e:p s[k].toNat=false):aX p s k=k:=by
 unfold aX;rw[iy h];simp[run,e]
theorem jf{p:Nat->Bool}{s:ByteArray}{k:Nat}(h:k<=s.size):aX p s k<=s.size:=by
 have:=QS p (from_ s k);unfold aX;unfold from_ at this ⊢;simp at this;omega
theorem ku(p:Nat->Bool)(s:ByteArray)(k:Nat):k<=aX p s k:=by unfold aX;omega
def byte(s:ByteArray)(k:Nat):Nat:=(s.data.toList.getD k 0).toNat
theorem jL{s:ByteArray}{k:Nat}(h:k<s.size):byte s k=s[k].toNat:=by
 unfold byte;rw[yG,yF (by simpa using h)];rfl
structure Tok where
 kind:Nat
 text:ByteArray
 num:Nat
 at_:Nat
def Tok.val(t:Tok):Value:=.agg #[.int .u8 t.kind,.string t.text,.int .i64 t.num,.int .i64 t.at_]
def arrow:ByteArray:=⟨#[45,62]⟩
def empty:ByteArray:=⟨#[]⟩
def num(s:ByteArray)(k e:Nat):Nat:=OO 0 ((s.data.toList.take e).drop k)
def aH(d:Nat)(s:ByteArray)(k:Nat):Tok × Nat :=
 if cZ (byte s k)then
  let e:=aX aW s (k+1)
  (⟨1,s.extract k e,0,k⟩,if 32<e - k then 3 else 0)
 else if isDigit (byte s k)then
  let e:=aX isDigit s (k+1)
  if 9<e - k then(⟨2,s.extract k e,0,k⟩,3)
  else if byte s k=48/\1<e - k then(⟨2,s.extract k e,0,k⟩,110)
  else(⟨2,s.extract k e,num s k e,k⟩,0)
 else if kG (byte s k)then(⟨3,s.extract k (k+1),0,k⟩,0)
 else if byte s k=45/\k+1<s.size/\byte s (k+1)=62 then(⟨3,arrow,0,k⟩,0)
 else(⟨d,empty,0,k⟩,110)
end Tk
namespace Tk
theorem EF{x:Nat}(h:kK x=false):x≠32/\x≠9/\x≠10/\x≠13:=by
 unfold kK at h;simp at h;omega
theorem CX{x:Nat}(h:kK x=true):x=32∨x=9∨x=10∨x=13:=by
 unfold kK at h;simp at h;omega
end Tk
namespace Tk
theorem Oe{x:Nat}(h:kG x=true):x=123∨x=125∨x=40∨x=41∨x=59∨x=58∨x=44∨x=46:=by
 unfold kG at h;simp at h;omega
theorem QK{x:Nat}(h:kG x=false):x≠123/\x≠125/\x≠40/\x≠41/\x≠59/\x≠58/\x≠44/\x≠46:=by
 unfold kG at h;simp at h;omega
end Tk
namespace Tk
theorem run_get(p:Nat->Bool):∀(l:List UInt8)(i:Nat)(h:i<run p l)(h2:i<l.length),p l[i].toNat=true
 |[],i,h,h2=>by simp at h2
 |c::r,0,h,h2=>by
  unfold run at h;by_cases e:p c.toNat=true
  ·exact e
  ·rw[if_neg e]at h;omega
 |c::r,i+1,h,h2=>by
  unfold run at h;by_cases e:p c.toNat=true
  ·rw[if_pos e]at h
   exact run_get p r i (by omega) (by simpa using h2)
  ·rw[if_neg e]at h;omega
theorem uM{p:Nat->Bool}{s:ByteArray}{k m:Nat}(hk:k<=m)(hm:m<aX p s k)(hms:m<s.size):p s[m].toNat=true:=by
 have h:=run_get p (from_ s k) (m - k) (by unfold aX at hm;omega) (by unfold from_;simp;omega);unfold from_ at h;rw[List.getElem_drop]at h;have e:k+(m - k)=m:=by omega
 simp only[e]at h;exact h
theorem kC(s:ByteArray)(k:Nat):num s k k=0:=by
 unfold num;rw[xP (by simp;omega)];rfl
theorem qX{s:ByteArray}{k m:Nat}(hk:k<=m)(hm:m<s.size):num s k (m+1)=10 * num s k m+(s[m].toNat - 48):=by
 unfold num;have e1:s.data.toList.take (m+1)=s.data.toList.take m++[s[m]]:=by
  rw[List.take_succ_eq_append_getElem (by simpa using hm)];rfl
 rw[e1,List.drop_append_of_le_length (by simp;omega)];unfold OO;rw[List.foldl_append];rfl
theorem pR{s:ByteArray}{k m:Nat}(hk:k<=m)(hm:m<s.size)(hd:isDigit s[m].toNat=true)(h:num s k m<10 ^ (m - k)):num s k (m+1)<10 ^ (m+1 - k):=by
 rw[qX hk hm,show m+1 - k=(m - k)+1 from by omega,Nat.pow_succ];unfold isDigit at hd;simp at hd;omega
theorem tH{n d:Nat}(h:n<10 ^ d)(hd:d<=8):n<100000000:=by
 have:10 ^ d<=10 ^ 8:=Nat.pow_le_pow_right (by omega) hd;omega
end Tk
namespace Tk
def over(b n:Nat):Nat:=if b<n then 3 else 0
end Tk
section
open Go.RowKit
namespace Tk
def Tok.cells(t:Tok):List Value:=[.int .u8 t.kind,.string t.text,.int .i64 t.num,.int .i64 t.at_]
def flat(l:List Tok):List Value:=l.flatMap Tok.cells
theorem G9(l:List Tok)(t:Tok):flat (l++[t])=flat l++t.cells:=by simp[flat]
def scan(d:Nat)(s:ByteArray):Nat->Nat->List Tok->List Tok × Nat × Nat
 |0,_,acc=>(acc,0,0)
 |f+1,k,acc=>if k<s.size then(if(aH d s k).2≠0 then([],k,(aH d s k).2)else scan d s f (aP false s (k+(aH d s k).1.text.size)) (acc++[(aH d s k).1]))else(acc,0,0)
def all(s:ByteArray):List Tok × Nat × Nat:=if 65536<s.size then([],0,3)else scan 3 s (s.size+1) (aP false s 0) []
theorem nV{d:Nat}{s:ByteArray}{k:Nat}(h:k<s.size)(h0:(aH d s k).2=0):1<=(aH d s k).1.text.size/\k+(aH d s k).1.text.size<=s.size:=by
 have a1:=ku aW s (k+1);have a2:=jf (p:=aW) (s:=s) (k:=k+1) (by omega);have b1:=ku isDigit s (k+1);have b2:=jf (p:=isDigit) (s:=s) (k:=k+1) (by omega);have hex:∀ e,(s.extract k e).size=min e s.size - k:=λe=>by simp
 unfold aH at h0 ⊢;split
 ·simp only[hex];omega
 ·split
  ·dsimp only
   split
   ·simp only[hex];omega
   ·split
    ·simp only[hex];omega
    ·simp only[hex];omega
  ·split
   ·simp only[hex];omega
   ·split
    ·rename_i hh
     have e:arrow.size=2:=rfl;simp only[e];omega
    ·rename_i n1 n2 n3 n4
     rw[if_neg n1,if_neg n2,if_neg n3,if_neg n4]at h0;simp at h0
end Tk
theorem Tk.Gj{w w1:World}{base:Nat}{e:TypeId}{size:Nat}{v:Value}{n:Nat}{xs:List Value}(h:w.ownsRow base e size v n xs)(hb:Below w.heap.size w w1):w1.ownsRow base e size v n xs:=by
 refine⟨h.1,?_⟩;rcases h.2 with hn|⟨g,cap,cur,rfl,hbs,hgg,rest⟩
 ·exact .inl hn
 ·exact .inr ⟨g,cap,cur,rfl,hbs,by rw[hb.block g (Array.getElem?_eq_some_iff.1 hgg).1];exact hgg,rest⟩
theorem FB(w:World)(c0 c1 c2 c3:Value)(t:TypeId):∀ j u,[c0,c1,c2,c3][j]?=some u->(w.alloc (.cells #[c0,c1,c2,c3] t)).cell? ((⟨w.heap.size,0,none⟩:Addr).add j)=some u:=by
 intro j u h;have e:((⟨w.heap.size,0,none⟩:Addr).add j)=⟨w.heap.size,j,none⟩:=by simp[Addr.add];omega
 rw[e,World.cell?_alloc_mark];simpa using h
theorem sG{P:Program}{ops:Array Oper}{rest:List Oper}{o:Oper}{a:Act}{Q:Exit->Act->World->Prop}{w0:World}(hgd:o.guard=none)(s y:Operand)(t:TypeId)
  (ho:o.op=.call { callee:=.builtin .append,args:=#[s,y],argTypes:=#[t,t] })
  (base:Nat) (e:TypeId) (z:Value) (bytes:Nat) (ht:P.underlying t=some (.slice e)) (hi:(P.info? e).map (λi=>(i.zero,i.size,i.bytes))=some (some z,4,bytes)) (hzs:z.cells.size=4)
  (v:Value) (n:Nat) (xs:List Value) (hs:a.eval s=v) (hown:w0.ownsRow base e 4 v n xs)
  (c0 c1 c2 c3:Value) (g:Nat) (hx:a.eval y=.slice (some ⟨g,0,none⟩) 1 1) (hg0:g=w0.heap.size) (h1:∀ u∈[c0,c1,c2,c3],u.oneCell'=true)
  (h63:n+1<=maxLen) (hbytes:(n+1) * bytes<=140737488355328) (hbase:base<=w0.heap.size)
  (h:∀ v' w',w'.ownsRow base e 4 v' (n+1) (xs++[c0,c1,c2,c3])->Below base w0 w'->(w0.alloc (.cells #[c0,c1,c2,c3] e)).grownBy w' v.ownBlock->wpList P ops Q rest (a.put o.dst v') w') :
  wpList P ops Q (o::rest) a (w0.alloc (.cells #[c0,c1,c2,c3] e)):=by
 subst hg0;obtain⟨i,hi0,hz0,hz1,hz2⟩:=info_parts hi;refine wpList_append_own _ hgd s y t ho base e i z 4 bytes ht hi0 hz0 hz1 hz2 hzs (by decide) v n xs hs (hown.alloc _) ⟨w0.heap.size,0,none⟩ 1 1 [c0,c1,c2,c3] hx rfl (FB _ _ _ _ _ _) h1 h63 hbytes (by simp;omega) ?_;intro v' w' hown' hg _;exact h v' w' hown' (((Below.refl base w0).alloc hbase _).grown hg (by simp;omega) (λk hk=>(hown.lt k hk).1)) hg
theorem JF:(Tryz.prog.info? 171).map (λi=>(i.zero,i.size,i.bytes))=some (some (.agg #[.int .u8 0,.string ByteArray.empty,.int .i64 0,.int .i64 0]),4,40):=by kernel_rfl
namespace Tk
def iG(w:World)(A:Option Addr)(ls:List Tok):Prop:=0<ls.length->∃ g off,A=some ⟨g,off,none⟩/\∀ j (hj:j<ls.length),
 w.cell? ⟨g,off+j * 4,none⟩=some (.int .u8 ls[j].kind)/\w.cell? ⟨g,off+j * 4+1,none⟩=some (.string ls[j].text)/\w.cell? ⟨g,off+j * 4+2,none⟩=some (.int .i64 ls[j].num)/\w.cell? ⟨g,off+j * 4+3,none⟩=some (.int .i64 ls[j].at_)
theorem iG.drewN{w:World}{A:Option Addr}{ls:List Tok}(h:iG w A ls)(n:Nat):iG (w.drewN n) A ls:=h
end Tk
namespace Tk
theorem tY:∀(ls:List Tok)(j:Nat)(h:j<ls.length),(flat ls).drop (j * 4)=ls[j].cells++flat (ls.drop (j+1))
 |[],j,h=>by simp at h
 |t::ls,0,h=>by simp[flat]
 |t::ls,j+1,h=>by
  have ih:=tY ls j (by simpa using h);have e:flat (t::ls)=t.cells++flat ls:=by simp[flat]
  have l4:t.cells.length=4:=rfl;rw[e,List.drop_append,xP (by omega),yI,show(j+1) * 4 - t.cells.length=j * 4 from by omega,ih];simp
theorem flat_get{ls:List Tok}{j:Nat}(h:j<ls.length)(i:Nat)(hi:i<4):(flat ls)[j * 4+i]?=ls[j].cells[i]?:=by
 have l4:ls[j].cells.length=4:=rfl;rw[<-List.getElem?_drop,tY ls j h,List.getElem?_append_left (by omega)]
theorem Bc{w:World}{base:Nat}{v:Value}{ls:List Tok}(h:w.ownsRow base 171 4 v ls.length (flat ls)):∃ A c,v=.slice A ls.length c/\iG w A ls/\ls.length<=9223372036854775807:=by
 rcases h.2 with⟨rfl,h0⟩|⟨g,cap,cur,rfl,hbs,hgg,hn,hc,_⟩
 ·exact⟨none,0,by rw[h0],λe=>by omega,by omega⟩
 ·refine⟨some ⟨g,0,none⟩,cap,rfl,λ_=>⟨g,0,rfl,λj hj=>?_⟩,by unfold maxLen at hc;omega⟩
  have hc:=h.cells (g:=g) rfl;have key:∀ i (hi:i<4) u,ls[j].cells[i]?=some u->w.cell? ⟨g,0+j * 4+i,none⟩=some u:=by
   intro i hi u hu;have:=hc (j * 4+i) u (by rw[flat_get hj i hi];exact hu);have hadd:(⟨g,0,none⟩:Addr).add (j * 4+i)=⟨g,j * 4+i,none⟩:=by unfold Addr.add;split<;>simp_all
   rw[hadd]at this;rw[Nat.zero_add];exact this
  exact⟨key 0 (by omega) _ rfl,key 1 (by omega) _ rfl,key 2 (by omega) _ rfl,key 3 (by omega) _ rfl⟩
end Tk
theorem Tk.iG.below{w w':World}{A:Option Addr}{ls:List Tk.Tok}(h:Tk.iG w A ls)(hb:Below w.heap.size w w'):Tk.iG w' A ls:=by
 intro h0;obtain⟨g,off,rfl,hc⟩:=h h0;refine⟨g,off,rfl,λj hj=>?_⟩;have key:∀ o v,w.cell? ⟨g,o,none⟩=some v->w'.cell? ⟨g,o,none⟩=some v:=λo v hv=>by
  rw[hb.cell (p:=⟨g,o,none⟩) (xH w _ hv)];exact hv
 obtain⟨h1,h2,h3,h4⟩:=hc j hj;exact⟨key _ _ h1,key _ _ h2,key _ _ h3,key _ _ h4⟩
theorem gQ(x:Nat)(hx:x<256)(w:World) :
  Calls Tryz.prog 169 #[.int .u8 x] w λe w'=>e=.returned (.bool (Tk.cZ x))/\w=w':=by
 have e1:bits .or .u8 (x:Int) 32=((x ||| 32:Nat):Int):=u8_or_nat x 32 hx (by omega);have hl:=Tk.LU x hx;have hlt:=Tk.Xa x hx;generalize x ||| 32=y at e1 hl hlt
 rw[<-hl];clear hl;go_enter Tryz.func169,Tryz.ntmps169;by_cases h1:97<=y
 ·by_cases h2:y<=122
  ·go_wp2
   go_ret;exact⟨by first|rfl|(simp;done)|(simp[*];done)|(simp[*];omega)|(simp;omega)|(simp_all;omega),rfl⟩
  ·go_wp2
   go_ret;exact⟨by first|rfl|(simp;done)|(simp[*];done)|(simp[*];omega)|(simp;omega)|(simp_all;omega),rfl⟩
 ·go_wp2
  go_ret;exact⟨by first|rfl|(simp;done)|(simp[*];done)|(simp[*];omega)|(simp;omega)|(simp_all;omega),rfl⟩
theorem kS(x:Nat)(hx:x<256)(w:World) :
  Calls Tryz.prog 199 #[.int .u8 x] w λe w'=>e=.returned (.bool (Tk.isDigit x))/\w=w':=by
 unfold Tk.isDigit;go_enter Tryz.func199,Tryz.ntmps199;by_cases h1:48<=x
 ·by_cases h2:x<=57
  ·go_wp2
   go_ret;exact⟨by first|rfl|(simp;done)|(simp[*];done)|(simp[*];omega)|(simp;omega)|(simp_all;omega),rfl⟩
  ·go_wp2
   go_ret;exact⟨by first|rfl|(simp;done)|(simp[*];done)|(simp[*];omega)|(simp;omega)|(simp_all;omega),rfl⟩
 ·go_wp2
  go_ret;exact⟨by first|rfl|(simp;done)|(simp[*];done)|(simp[*];omega)|(simp;omega)|(simp_all;omega),rfl⟩
theorem Sr(x:Nat)(hx:x<256)(w:World) :
  Calls Tryz.prog 172 #[.int .u8 x] w λe w'=>e=.returned (.bool (Tk.aW x))/\w=w':=by
 unfold Tk.aW;cases h1:Tk.cZ x
 ·cases h2:Tk.isDigit x
  ·go_enter Tryz.func172,Tryz.ntmps172
   go_wp2_with fail;refine(gQ x hx _).mono ?_;rintro e w1⟨rfl,rfl⟩;rw[h1];go_wp2_with fail;refine(kS x hx _).mono ?_;rintro e w1⟨rfl,rfl⟩;rw[h2];by_cases h3:x=95
   ·go_wp2_with fail
    go_ret;exact⟨by first|rfl|(simp;done)|(simp[*];done)|(simp[*];omega)|(simp;omega)|(simp_all;omega),rfl⟩
   ·go_wp2_with fail
    go_ret;exact⟨by first|rfl|(simp;done)|(simp[*];done)|(simp[*];omega)|(simp;omega)|(simp_all;omega),rfl⟩
  ·go_enter Tryz.func172,Tryz.ntmps172
   go_wp2_with fail;refine(gQ x hx _).mono ?_;rintro e w1⟨rfl,rfl⟩;rw[h1];go_wp2_with fail;refine(kS x hx _).mono ?_;rintro e w1⟨rfl,rfl⟩;rw[h2];go_wp2_with fail;go_ret;exact⟨by simp,rfl⟩
 ·go_enter Tryz.func172,Tryz.ntmps172
  go_wp2_with fail;refine(gQ x hx _).mono ?_;rintro e w1⟨rfl,rfl⟩;rw[h1];go_wp2_with fail;go_ret;exact⟨by simp,rfl⟩
theorem zG(w:World)(r:Option Nat):w.grownBy w r:=⟨rfl,rfl,rfl,xB _,λ_ _ _=>rfl⟩
theorem aC{a b c:World}{r:Option Nat}(h:a.grownBy b r)(k:b.grownBy c r):a.grownBy c r :=
 ⟨k.os.trans h.os,k.tape.trans h.tape,k.output.trans h.output,xM h.size k.size,λi hi hn=>(k.block i (Nat.lt_of_lt_of_le hi h.size) hn).trans (h.block i hi hn)⟩
theorem grown_drewN(w:World)(n:Nat)(r:Option Nat):w.grownBy (w.drewN n) r:=⟨rfl,rfl,rfl,xB _,λ_ _ _=>rfl⟩
theorem jg(w:World)(b j:Nat)(v:Value):w.grownBy (w.setCell ⟨b,j,none⟩ v) (some b) :=
 ⟨rfl,rfl,rfl,by simp,λk _ hne=>Below.heap_setCell _ _ _ _ (by intro e;exact hne (by rw[e]))⟩
theorem below_of_grown{w w':World}{b B:Nat}(h:w.grownBy w' (some b))(hB:B<=b)(hb:b<=w.heap.size∨B<=w.heap.size):Below B w w' :=
 ⟨h.os,h.tape,h.output,h.size,λk hk=>h.block k (by have:=h.size;omega) (by intro e;cases e;omega)⟩
theorem oN{P:Program}{f:FuncId}{args:Array Value}{w:World}{q n:Nat}{v:Value}(h:∀ w0:World,Calls P f args w0 λe w'=>e=.returned v/\w'=w0) :
  Calls P f args (w.drewN (q+n)) λe w''=>e=.returned v/\∃ m,w''=w.drewN (q+m) :=
 (h _).mono λ_ _ ⟨he,hm⟩=>⟨he,n,hm⟩
theorem jF{P:Program}{f:FuncId}{args:Array Value}{v v':Value}(h:∀ w0:World,Calls P f args w0 λe w'=>e=.returned v/\w'=w0)(e:v=v')(w0:World) :
  Calls P f args w0 λe w'=>e=.returned v'/\w'=w0:=by subst e;exact h w0
namespace Tk
def Rd(w:World)(b:Nat)(s:ByteArray)(k:Nat):Prop:=w.heap[b]?=some (.cells #[.string s,.int .i64 k] 235 (0,0))
theorem Rd.c0{w:World}{b:Nat}{s:ByteArray}{k:Nat}(h:Rd w b s k):w.cell? ⟨b,0,none⟩=some (.string s):=by rw[cell_of_row w b 0 _ _ _ h];rfl
theorem Rd.c1{w:World}{b:Nat}{s:ByteArray}{k:Nat}(h:Rd w b s k):w.cell? ⟨b,1,none⟩=some (.int .i64 k):=by rw[cell_of_row w b 1 _ _ _ h];rfl
theorem Rd.f1{w:World}{b:Nat}{s:ByteArray}{k:Nat}(h:Rd w b s k):w.frozen? ⟨b,1,none⟩=false:=frozen_of_row w b 1 _ _ h
theorem Rd.drewN{w:World}{b:Nat}{s:ByteArray}{k:Nat}(h:Rd w b s k)(n:Nat):Rd (w.drewN n) b s k:=h
theorem Rd.lt{w:World}{b:Nat}{s:ByteArray}{k:Nat}(h:Rd w b s k):b<w.heap.size:=lt_of_block h
theorem Rd.set{w:World}{b:Nat}{s:ByteArray}{k:Nat}(h:Rd w b s k)(j:Nat):Rd (w.setCell ⟨b,1,none⟩ (.int .i64 j)) b s j:=by
 have hlt:=lt_of_block h;unfold Rd at h;have h':w.heap[b]=.cells #[.string s,.int .i64 k] 235 (0,0):=by simpa[yD hlt]using h
 show(w.heap.modify b _)[b]?=_
 rw[yD (by simpa using hlt),Array.getElem_modify_self,h'];rfl
theorem Rd.grown{w w':World}{b:Nat}{s:ByteArray}{k:Nat}{r:Option Nat}(h:Rd w b s k)(hg:w.grownBy w' r)(hne:some b≠r):Rd w' b s k:=by
 unfold Rd;rw[hg.block b h.lt hne];exact h
theorem Rd.below{w w':World}{b:Nat}{s:ByteArray}{k:Nat}(h:Rd w b s k)(hg:Below w.heap.size w w'):Rd w' b s k:=by
 unfold Rd;rw[hg.block b h.lt];exact h
theorem zI(c:UInt8)(r:List UInt8):gap true (c::r)=if c.toNat=10 then 1+gap false r else 1+gap true r:=by rw[gap]
theorem JD(b c:UInt8)(l:List UInt8):Lib.indexByte (b::l) c=if b==c then 0 else if Lib.indexByte l c==-1 then -1 else Lib.indexByte l c+1:=rfl
theorem CY(r:List UInt8):gap false (10::r)=1+gap false r:=by rw[gap];rfl
theorem Ny(l:List UInt8):gap true l=if Lib.indexByte l 10=-1 then l.length else(Lib.indexByte l 10).toNat+gap false (l.drop (Lib.indexByte l 10).toNat):=by
 induction l with
 |nil=>rfl
 |cons c r ih =>
  have hge:=Lib.indexByte_ge r 10;rw[zI,JD];by_cases hc:c=10
  ·subst hc
   have e:((10:UInt8)==10)=true:=rfl;simp only[e,if_true];rw[if_pos (show(10:UInt8).toNat=10 from rfl),if_neg (by omega)];simp[CY]
  ·have hn:c.toNat≠10:=λe=>hc (by apply UInt8.toNat_inj.1;rw[e];rfl)
   rw[if_neg hn,ih];have hb:(c==10)=false:=by simpa using hc
   simp only[hb,Bool.false_eq_true,if_false];by_cases hm:Lib.indexByte r 10=-1
   ·simp[hm];omega
   ·rw[if_neg hm]
    have hb2:(Lib.indexByte r 10==-1)=false:=by simpa using hm
    simp only[hb2,Bool.false_eq_true,if_false];rw[if_neg (by omega),show(Lib.indexByte r 10+1).toNat=(Lib.indexByte r 10).toNat+1 from by omega,List.drop_succ_cons];omega
theorem indexByte_lt(l:List UInt8)(c:UInt8)(h:l≠[]):Lib.indexByte l c<l.length:=by
 induction l with
 |nil=>exact absurd rfl h
 |cons b r ih =>
  have hge:=Lib.indexByte_ge r c;unfold Lib.indexByte;simp only[xJ];split
  ·omega
  ·split
   ·omega
   ·rename_i h1 h2
    by_cases hr:r=[]
    ·subst hr;exact absurd rfl h2
    ·have:=ih hr;omega
theorem lu(s:ByteArray)(k:Nat):(s.extract k s.size).data.toList=from_ s k:=by
 unfold from_;rw[Lib.extract_to_end]
theorem PD{s:ByteArray}{k:Nat}(h:k<s.size){j:Nat}(e:Lib.indexByte (from_ s k) 10=(j:Int)):aP true s k=aP false s (k+j)/\k+j<s.size:=by
 have hl:=indexByte_lt (from_ s k) 10 (by rw[iy h];simp);have hlen:(from_ s k).length=s.size - k:=by unfold from_;simp
 have hg:=Ny (from_ s k);rw[e]at hg hl;rw[if_neg (by omega)]at hg;refine⟨?_,by omega⟩;unfold aP;rw[hg];simp only[Int.toNat_natCast];unfold from_;rw[List.drop_drop];omega
theorem Xq{s:ByteArray}{k:Nat}(h:k<s.size)(hne:s[k]≠10){j:Nat}(e:Lib.indexByte (from_ s k) 10=(j:Int)):1<=j:=by
 rw[iy h,JD]at e;have hb:(s[k]==10)=false:=by simpa using hne
 have hge:=Lib.indexByte_ge (from_ s (k+1)) 10;rw[if_neg (by simp[hb])]at e;by_cases hm:Lib.indexByte (from_ s (k+1)) 10=-1
 ·rw[if_pos (by simp[hm])]at e;omega
 ·rw[if_neg (by simpa using hm)]at e;omega
theorem LY{s:ByteArray}{k:Nat}(h:k<=s.size)(e:Lib.indexByte (from_ s k) 10=-1):aP true s k=s.size:=by
 have hlen:(from_ s k).length=s.size - k:=by unfold from_;simp
 have hg:=Ny (from_ s k);rw[if_pos e]at hg;unfold aP;omega
theorem Nl{s:ByteArray}{k:Nat}(a b:UInt8)(h:k<s.size):Lib.hasPrefix (from_ s k) [a,b]=true↔(s[k]=a/\∃ h':k+1<s.size,s[k+1]=b):=by
 unfold Lib.hasPrefix;rw[iy h];by_cases h':k+1<s.size
 ·rw[iy h']
  simp only[List.isPrefixOf,Bool.and_true,xX,beq_iff_eq];constructor
  ·rintro⟨h1,h2⟩;exact⟨h1.symm,h',h2.symm⟩
  ·rintro⟨h1,_,h2⟩;exact⟨h1.symm,h2.symm⟩
 ·rw[zK (by omega)]
  simp only[List.isPrefixOf,Bool.and_false];constructor
  ·intro e;cases e
  ·rintro⟨_,h2,_⟩;exact absurd h2 h'
end Tk
theorem nP(s:ByteArray)(hs:s.size<=maxLen)(b k:Nat)(hk:k<=s.size)(w:World)(h:Tk.Rd w b s k) :
  Calls Tryz.prog 198 #[.pointer (some ⟨b,0,none⟩)] w λe w'=>e=.returned (.tuple #[])/\w.grownBy w' (some b)/\Tk.Rd w' b s (Tk.aP false s k):=by
 have hs2:=hs;unfold maxLen at hs;go_enter Tryz.func198,Tryz.ntmps198;go_wp2;go_loopg [2] (s.size - k+1) (λn c wr=>∃ j,n=s.size - j+1/\j<=s.size/\Tk.Rd wr b s j/\Hid (Tk.aP false s k=Tk.aP false s j)/\w.grownBy wr (some b))
 case atStart=>exact⟨k,rfl,hk,h,hid rfl,zG _ _⟩
 case round =>
  obtain⟨j,rfl,hj,hR,HG,hgr⟩:=hrel;have c0:=hR.c0;have c1:=hR.c1;have f1:=hR.f1;by_cases hlt:j<s.size
  ·have hx:s[j].toNat<256:=s[j].toNat_lt
   have hji:(j:Int)<(s.size:Int):=by omega
   have hjs:(j:Int)+1<=9223372036854775807:=by omega
   go_wp2;go_quiet (fail);go_wp2;go_quiet (fail);cases hb:Tk.kK s[j].toNat
   ·obtain⟨n1,n2,n3,n4⟩:=Tk.EF hb
    have t1:((s[j].toNat:Int)==32)=false:=by simp;omega
    have t2:((s[j].toNat:Int)==9)=false:=by simp;omega
    have t3:((s[j].toNat:Int)==10)=false:=by simp;omega
    have t4:((s[j].toNat:Int)==13)=false:=by simp;omega
    have hp:=Tk.Nl (s:=s) (k:=j) 47 47 hlt;cases hpp:Lib.hasPrefix (Tk.from_ s j) [47,47]
    ·have HS:=hid (Tk.pW hlt hb (by
      rintro⟨e1,h',e2⟩;have:=hp.2 ⟨UInt8.toNat_inj.1 e1,h',UInt8.toNat_inj.1 e2⟩;rw[hpp]at this;cases this))
     have HP:=hid hpp;have HC:=hid (jF (Tryz.strings_HasPrefix (s.extract j s.size) ⟨#[47,47]⟩) (v':=.bool false) (by rw[Tk.lu,hpp]));clear hb n1 n2 n3 n4 hp hpp;go_wp2;go_quiet ((go_at_call 201;go_must(exact oN HC.out)));go_wp2;(try simp only[Exit.inBlock,Exit.then])
     refine bodyPost_ret (results_none rfl _ _ _) rfl ?_;exact⟨rfl,(by repeat(first|exact hgr|refine aC ?_ (grown_drewN _ _ _)|refine aC ?_ (jg _ _ _ _))),by rw[HG.out,HS.out];exact hR⟩
    ·have hp':=hp.1 hpp
     obtain⟨e1,h2,e2⟩:=hp';have HS:=hid (Tk.Ag hlt h2 (by rw[e1];rfl) (by rw[e2];rfl));have HC:=hid (jF (Tryz.strings_HasPrefix (s.extract j s.size) ⟨#[47,47]⟩) (v':=.bool true) (by rw[Tk.lu,hpp]));clear hb n1 n2 n3 n4 hp hpp e2;by_cases hi:Lib.indexByte (Tk.from_ s j) 10=-1
     ·have HD:=hid (jF (Tryz.strings_IndexByte (s.extract j s.size) 10) (v':=.int .i64 (-1)) (by rw[Tk.lu];exact congrArg _ hi))
      have HE:=hid (Tk.LY hj hi);clear hi e1;go_wp2;go_quiet ((go_at_call 201;go_must(exact oN HC.out)));go_wp2;go_quiet ((go_at_call 200;go_must(exact oN HD.out)));go_wp2;go_roundg 1
      case rel=>exact⟨s.size,by omega,xB _,Tk.Rd.set hR _,hid (by rw[HG.out,HS.out,HE.out,Tk.lQ _ (xB _)]),(by repeat(first|exact hgr|refine aC ?_ (grown_drewN _ _ _)|refine aC ?_ (jg _ _ _ _)))⟩
      case measure=>omega
     ·have hge:=Lib.indexByte_ge (Tk.from_ s j) 10
      obtain⟨d,hd⟩:∃ d:Nat,Lib.indexByte (Tk.from_ s j) 10=(d:Int):=⟨(Lib.indexByte (Tk.from_ s j) 10).toNat,by omega⟩;have HD:=hid (jF (Tryz.strings_IndexByte (s.extract j s.size) 10) (v':=.int .i64 d) (by rw[Tk.lu];exact congrArg _ hd));obtain⟨he1,he2⟩:=Tk.PD hlt hd;have hd1:=Tk.Xq hlt (by rw[e1];decide) hd;have hjd:(j:Int)+(d:Int)<=9223372036854775807:=by omega
      have HE:=hid he1;clear hi hge hd he1 e1;go_wp2;go_quiet ((go_at_call 201;go_must(exact oN HC.out)));go_wp2;go_quiet ((go_at_call 200;go_must(exact oN HD.out)));go_wp2;rw[show(j:Int)+(d:Int)=((j+d:Nat):Int)from by simp];go_roundg (s.size - (j+d)+1)
      case rel=>exact⟨j+d,rfl,by omega,Tk.Rd.set hR _,hid (by rw[HG.out,HS.out,HE.out]),(by repeat(first|exact hgr|refine aC ?_ (grown_drewN _ _ _)|refine aC ?_ (jg _ _ _ _)))⟩
      case measure=>omega
   ·have HS:=hid (Tk.vI hlt hb)
    rcases Tk.CX hb with h|h|h|h
    all_goals
     have ht:=hid h;clear hb;go_wp2;rw[show(j:Int)+1=((j+1:Nat):Int)from by simp];go_roundg (s.size - (j+1)+1)
     case rel=>exact⟨j+1,rfl,by omega,Tk.Rd.set hR _,hid (by rw[HG.out,HS.out]),(by repeat(first|exact hgr|refine aC ?_ (grown_drewN _ _ _)|refine aC ?_ (jg _ _ _ _)))⟩
     case measure=>omega
  ·obtain rfl:j=s.size:=by omega
   go_wp2;go_quiet (fail);go_wp2;go_end0;exact⟨rfl,(by repeat(first|exact hgr|refine aC ?_ (grown_drewN _ _ _)|refine aC ?_ (jg _ _ _ _))),by rw[HG.out,Tk.lQ _ (xB _)];exact hR⟩
theorem pz{P : Program}{f : FuncId}{fn : Func}(hf : P.funcs[f]? = some fn)(hn : (fn.name == "runtime.NumGoroutine") = false)(hb : fn.body.isNone = false)(args : Array Value)(w : World) :
  (callFunc f args).run P w=.ok (.enter f args) w:=by
 have h1 : ¬ fn.name = "runtime.NumGoroutine" := by simpa using hn
 have h2:¬fn.body=none:=by intro e;rw[e]at hb;cases hb
 simp[callFunc,hf,h1,h2]
theorem run_any(f:FuncId)(p:Nat->Bool)(hc:∀(args:Array Value)(w:World),(callFunc f args).run Tryz.prog w=.ok (.enter f args) w)(hf:Hid (∀(x:Nat)(hx:x<256)(w:World),Calls Tryz.prog f #[.int .u8 x] w λe w'=>e=.returned (.bool (p x))/\w'=w))
  (s:ByteArray) (hs:s.size<=maxLen) (b k:Nat) (hk:k<=s.size) (w:World) (h:Tk.Rd w b s k) :
  Calls Tryz.prog 171 #[.pointer (some ⟨b,0,none⟩),.func (.func f) #[] #[]] w λe w'=>e=.returned (.string (s.extract k (Tk.aX p s k)))/\w.grownBy w' (some b)/\Tk.Rd w' b s (Tk.aX p s k):=by
 unfold maxLen at hs;have c0:=h.c0;have c1:=h.c1;go_enter Tryz.func171,Tryz.ntmps171;go_wp2;clear c0 c1;go_loopg [32] (s.size - k+1) (λn c wr=>∃ j,n=s.size - j+1/\k<=j/\j<=s.size/\Tk.Rd wr b s j/\Hid (Tk.aX p s k=Tk.aX p s j)/\w.grownBy wr (some b))
 case atStart=>exact⟨k,rfl,xB _,hk,h,hid rfl,zG _ _⟩
 case round =>
  obtain⟨j,rfl,hkj,hj,hR,HG,hgr⟩:=hrel;have c0:=hR.c0;have c1:=hR.c1;have f1:=hR.f1;by_cases hlt:j<s.size
  ·have hx:s[j].toNat<256:=s[j].toNat_lt
   have hji:(j:Int)<(s.size:Int):=by omega
   have hjs:(j:Int)+1<=9223372036854775807:=by omega
   cases hp:p s[j].toNat
   ·have HS:=hid (Tk.rV (p:=p) hlt hp)
    have HC:=hid (jF (hf.out s[j].toNat hx) (v':=.bool false) (by rw[hp]));clear hp;go_wp2;go_quiet (go_must(first|exact oN HC.out|exact Calls.quiet_of_same (HC.out _)));go_wp2;go_quiet (fail);go_wp2;go_ret;exact⟨by rw[HG.out,HS.out];rfl,(by repeat(first|exact hgr|refine aC ?_ (grown_drewN _ _ _)|refine aC ?_ (jg _ _ _ _))),by rw[HG.out,HS.out];exact hR⟩
   ·have HS:=hid (Tk.ig (p:=p) hlt hp)
    have HC:=hid (jF (hf.out s[j].toNat hx) (v':=.bool true) (by rw[hp]));clear hp;go_wp2;go_quiet (go_must(first|exact oN HC.out|exact Calls.quiet_of_same (HC.out _)));go_wp2;rw[show(j:Int)+1=((j+1:Nat):Int)from by simp];go_roundg (s.size - (j+1)+1)
    case rel=>exact⟨j+1,rfl,by omega,by omega,Tk.Rd.set hR _,hid (by rw[HG.out,HS.out]),(by repeat(first|exact hgr|refine aC ?_ (grown_drewN _ _ _)|refine aC ?_ (jg _ _ _ _)))⟩
    case measure=>omega
  ·obtain rfl:j=s.size:=by omega
   have hki:(k:Int)<=(s.size:Int):=by omega
   go_wp2;go_quiet (fail);go_wp2;go_quiet (fail);go_wp2;go_ret;exact⟨by rw[HG.out,Tk.qJ (xB _)];rfl,(by repeat(first|exact hgr|refine aC ?_ (grown_drewN _ _ _)|refine aC ?_ (jg _ _ _ _))),by rw[HG.out,Tk.qJ (xB _)];exact hR⟩
theorem Gi(s:ByteArray)(hs:s.size<=maxLen)(b k:Nat)(hk:k<=s.size)(w:World)(h:Tk.Rd w b s k) :
  Calls Tryz.prog 171 #[.pointer (some ⟨b,0,none⟩),.func (.func 172) #[] #[]] w λe w'=>e=.returned (.string (s.extract k (Tk.aX Tk.aW s k)))/\w.grownBy w' (some b)/\Tk.Rd w' b s (Tk.aX Tk.aW s k) :=
 run_any _ _ (pz Tryz.func172 (by kernel_rfl) (by kernel_rfl)) (hid λx hx w=>(Sr x hx w).mono λ_ _ h=>⟨h.1,h.2.symm⟩) s hs b k hk w h
theorem Ba(s:ByteArray)(hs:s.size<=maxLen)(b k:Nat)(hk:k<=s.size)(w:World)(h:Tk.Rd w b s k) :
  Calls Tryz.prog 171 #[.pointer (some ⟨b,0,none⟩),.func (.func 199) #[] #[]] w λe w'=>e=.returned (.string (s.extract k (Tk.aX Tk.isDigit s k)))/\w.grownBy w' (some b)/\Tk.Rd w' b s (Tk.aX Tk.isDigit s k) :=
 run_any _ _ (pz Tryz.func199 (by kernel_rfl) (by kernel_rfl)) (hid λx hx w=>(kS x hx w).mono λ_ _ h=>⟨h.1,h.2.symm⟩) s hs b k hk w h
theorem bH(x:Nat)(hx:x<256)(w:World) :
  Calls Tryz.prog 239 #[.int .u8 x] w λe w'=>e=.returned (.bool (Tk.cZ x))/\w=w':=by
 unfold Tk.cZ;go_enter Tryz.func239,Tryz.ntmps239;by_cases h1:97<=x
 ·by_cases h2:x<=122
  ·go_wp2
   go_ret;exact⟨by first|rfl|(simp;done)|(simp[*];done)|(simp[*];omega)|(simp;omega)|(simp_all;omega),rfl⟩
  ·have h3:¬x<=90:=by omega
   have h4:65<=x:=by omega
   go_wp2;go_ret;exact⟨by first|rfl|(simp;done)|(simp[*];done)|(simp[*];omega)|(simp;omega)|(simp_all;omega),rfl⟩
 ·by_cases h3:65<=x
  ·by_cases h4:x<=90
   ·go_wp2
    go_ret;exact⟨by first|rfl|(simp;done)|(simp[*];done)|(simp[*];omega)|(simp;omega)|(simp_all;omega),rfl⟩
   ·go_wp2
    go_ret;exact⟨by first|rfl|(simp;done)|(simp[*];done)|(simp[*];omega)|(simp;omega)|(simp_all;omega),rfl⟩
  ·go_wp2
   go_ret;exact⟨by first|rfl|(simp;done)|(simp[*];done)|(simp[*];omega)|(simp;omega)|(simp_all;omega),rfl⟩
theorem bQ(x:Nat)(hx:x<256)(w:World) :
  Calls Tryz.prog 240 #[.int .u8 x] w λe w'=>e=.returned (.bool (Tk.isDigit x))/\w=w':=by
 unfold Tk.isDigit;go_enter Tryz.func240,Tryz.ntmps240;by_cases h1:48<=x
 ·by_cases h2:x<=57
  ·go_wp2
   go_ret;exact⟨by first|rfl|(simp;done)|(simp[*];done)|(simp[*];omega)|(simp;omega)|(simp_all;omega),rfl⟩
  ·go_wp2
   go_ret;exact⟨by first|rfl|(simp;done)|(simp[*];done)|(simp[*];omega)|(simp;omega)|(simp_all;omega),rfl⟩
 ·go_wp2
  go_ret;exact⟨by first|rfl|(simp;done)|(simp[*];done)|(simp[*];omega)|(simp;omega)|(simp_all;omega),rfl⟩
namespace Tk
def words:List ByteArray:=[⟨#[109,111,100,117,108,101]⟩,⟨#[114,101,99,111,114,100]⟩,⟨#[99,104,111,105,99,101]⟩,⟨#[115,101,114,118,105,99,101]⟩,⟨#[115,97,103,97]⟩,⟨#[100,111]⟩,⟨#[97,116]⟩,⟨#[117,110,100,111]⟩,⟨#[103,105,118,101]⟩,⟨#[116,97,107,101]⟩,⟨#[110,111,116,101]⟩,⟨#[110,111,110,101]⟩,⟨#[98,111,111,108]⟩,⟨#[105,110,116]⟩,⟨#[116,101,120,116]⟩,⟨#[108,105,115,116]⟩,⟨#[111,112,116]⟩]
def ru(s:ByteArray):Bool:=words.any (λx=>s.toList==x.toList)
def KW(w:World):Prop:=0<w.heap.size/\∀ j,j<words.length->w.cell? ⟨0,0+j,none⟩=some (.string (words.getD j ByteArray.empty))
theorem KW.below{w w':World}(h:KW w)(hb:Below w.heap.size w w'):KW w' :=
 ⟨by have:=hb.size;have:=h.1;omega,λj hj=>by rw[hb.cell (p:=⟨0,0+j,none⟩) h.1];exact h.2 j hj⟩
theorem KW.drewN{w:World}(h:KW w)(n:Nat):KW (w.drewN n):=h
theorem text_eq{a b:ByteArray}(h:a.toList=b.toList):a=b:=by
 rw[ByteArray.toList_eq,ByteArray.toList_eq]at h;have h2:=Array.toList_inj.1 h;cases a
 cases b
 simp only at h2;rw[h2]
theorem MF(s:ByteArray):Lib.containsS (words.take 17) s=ru s:=by
 rw[Bool.eq_iff_iff,Lib.containsS_iff];unfold ru;rw[List.any_eq_true];constructor
 ·intro h
  exact⟨s,h,beq_self_eq_true s.toList⟩
 ·rintro⟨x,hx,e⟩
  rw[text_eq (eq_of_beq e)];exact hx
def isName(s:ByteArray):Bool:=decide (1<=s.size)&&decide (s.size<=32)&&cZ (byte s 0)&&!ru s&&decide (aX aW s 0=s.size)
end Tk
theorem CW(s:ByteArray)(w:World)(hk:Tk.KW w) :
  Calls Tryz.prog 170 #[.string s] w λe w'=>e=.returned (.bool (Tk.ru s))/\w'=w:=by
 have HC:=hid (Tryz.slices_Contains_string 0 0 17 17 Tk.words s w (by decide) (by decide) hk.2);have HK:=hid (Tk.MF s);go_enter Tryz.func170,Tryz.ntmps170;go_wp2_with fail;refine(HC.out).mono ?_;rintro e w1⟨rfl,rfl⟩;rw[HK.out];go_wp2_with fail;go_ret;exact⟨rfl,rfl⟩
theorem Zv(w:World):Calls Tryz.prog 265 #[.string ⟨#[109,111,100,117,108,101]⟩] w λe w'=>e=.returned (.bool true)/\w'=w:=by
 go_enter Tryz.func265,Tryz.ntmps265;go_wp2;go_ret;exact⟨rfl,rfl⟩
theorem Zu(w:World):Calls Tryz.prog 265 #[.string ⟨#[114,101,99,111,114,100]⟩] w λe w'=>e=.returned (.bool true)/\w'=w:=by
 go_enter Tryz.func265,Tryz.ntmps265;go_wp2;go_ret;exact⟨rfl,rfl⟩
theorem Zt(w:World):Calls Tryz.prog 265 #[.string ⟨#[99,104,111,105,99,101]⟩] w λe w'=>e=.returned (.bool true)/\w'=w:=by
 go_enter Tryz.func265,Tryz.ntmps265;go_wp2;go_ret;exact⟨rfl,rfl⟩
theorem Zr(w:World):Calls Tryz.prog 265 #[.string ⟨#[115,101,114,118,105,99,101]⟩] w λe w'=>e=.returned (.bool true)/\w'=w:=by
 go_enter Tryz.func265,Tryz.ntmps265;go_wp2;go_ret;exact⟨rfl,rfl⟩
theorem Zq(w:World):Calls Tryz.prog 265 #[.string ⟨#[115,97,103,97]⟩] w λe w'=>e=.returned (.bool true)/\w'=w:=by
 go_enter Tryz.func265,Tryz.ntmps265;go_wp2;go_ret;exact⟨rfl,rfl⟩
theorem Zp(w:World):Calls Tryz.prog 265 #[.string ⟨#[100,111]⟩] w λe w'=>e=.returned (.bool true)/\w'=w:=by
 go_enter Tryz.func265,Tryz.ntmps265;go_wp2;go_ret;exact⟨rfl,rfl⟩
theorem Zo(w:World):Calls Tryz.prog 265 #[.string ⟨#[97,116]⟩] w λe w'=>e=.returned (.bool true)/\w'=w:=by
 go_enter Tryz.func265,Tryz.ntmps265;go_wp2;go_ret;exact⟨rfl,rfl⟩
theorem Zn(w:World):Calls Tryz.prog 265 #[.string ⟨#[117,110,100,111]⟩] w λe w'=>e=.returned (.bool true)/\w'=w:=by
 go_enter Tryz.func265,Tryz.ntmps265;go_wp2;go_ret;exact⟨rfl,rfl⟩
theorem Zm(w:World):Calls Tryz.prog 265 #[.string ⟨#[103,105,118,101]⟩] w λe w'=>e=.returned (.bool true)/\w'=w:=by
 go_enter Tryz.func265,Tryz.ntmps265;go_wp2;go_ret;exact⟨rfl,rfl⟩
theorem Zl(w:World):Calls Tryz.prog 265 #[.string ⟨#[116,97,107,101]⟩] w λe w'=>e=.returned (.bool true)/\w'=w:=by
 go_enter Tryz.func265,Tryz.ntmps265;go_wp2;go_ret;exact⟨rfl,rfl⟩
theorem Yk(w:World):Calls Tryz.prog 265 #[.string ⟨#[110,111,116,101]⟩] w λe w'=>e=.returned (.bool true)/\w'=w:=by
 go_enter Tryz.func265,Tryz.ntmps265;go_wp2;go_ret;exact⟨rfl,rfl⟩
theorem Yj(w:World):Calls Tryz.prog 265 #[.string ⟨#[110,111,110,101]⟩] w λe w'=>e=.returned (.bool true)/\w'=w:=by
 go_enter Tryz.func265,Tryz.ntmps265;go_wp2;go_ret;exact⟨rfl,rfl⟩
theorem Yi(w:World):Calls Tryz.prog 265 #[.string ⟨#[98,111,111,108]⟩] w λe w'=>e=.returned (.bool true)/\w'=w:=by
 go_enter Tryz.func265,Tryz.ntmps265;go_wp2;go_ret;exact⟨rfl,rfl⟩
theorem Yh(w:World):Calls Tryz.prog 265 #[.string ⟨#[105,110,116]⟩] w λe w'=>e=.returned (.bool true)/\w'=w:=by
 go_enter Tryz.func265,Tryz.ntmps265;go_wp2;go_ret;exact⟨rfl,rfl⟩
theorem Yg(w:World):Calls Tryz.prog 265 #[.string ⟨#[116,101,120,116]⟩] w λe w'=>e=.returned (.bool true)/\w'=w:=by
 go_enter Tryz.func265,Tryz.ntmps265;go_wp2;go_ret;exact⟨rfl,rfl⟩
theorem Yf(w:World):Calls Tryz.prog 265 #[.string ⟨#[108,105,115,116]⟩] w λe w'=>e=.returned (.bool true)/\w'=w:=by
 go_enter Tryz.func265,Tryz.ntmps265;go_wp2;go_ret;exact⟨rfl,rfl⟩
theorem Ye(w:World):Calls Tryz.prog 265 #[.string ⟨#[111,112,116]⟩] w λe w'=>e=.returned (.bool true)/\w'=w:=by
 go_enter Tryz.func265,Tryz.ntmps265;go_wp2;go_ret;exact⟨rfl,rfl⟩
theorem Yd(s:ByteArray)(w:World)(h0:(s.toList==[109,111,100,117,108,101])=false)(h1:(s.toList==[114,101,99,111,114,100])=false)(h2:(s.toList==[99,104,111,105,99,101])=false)(h3:(s.toList==[115,101,114,118,105,99,101])=false)(h4:(s.toList==[115,97,103,97])=false)(h5:(s.toList==[100,111])=false)(h6:(s.toList==[97,116])=false)(h7:(s.toList==[117,110,100,111])=false)(h8:(s.toList==[103,105,118,101])=false)(h9:(s.toList==[116,97,107,101])=false)(h10:(s.toList==[110,111,116,101])=false)(h11:(s.toList==[110,111,110,101])=false)(h12:(s.toList==[98,111,111,108])=false)(h13:(s.toList==[105,110,116])=false)(h14:(s.toList==[116,101,120,116])=false)(h15:(s.toList==[108,105,115,116])=false)(h16:(s.toList==[111,112,116])=false) :
  Calls Tryz.prog 265 #[.string s] w λe w'=>e=.returned (.bool false)/\w'=w:=by
 go_enter Tryz.func265,Tryz.ntmps265;go_wp2;go_ret;exact⟨rfl,rfl⟩
theorem Bf(s:ByteArray)(w:World) :
  Calls Tryz.prog 265 #[.string s] w λe w'=>e=.returned (.bool (Tk.ru s))/\w'=w:=by
 cases hk:Tk.ru s
 ·unfold Tk.ru Tk.words at hk
  simp only[List.any_cons,List.any_nil,Bool.or_false,Bool.or_eq_false_iff,ByteArray.toList_mk]at hk;obtain⟨h0,h1,h2,h3,h4,h5,h6,h7,h8,h9,h10,h11,h12,h13,h14,h15,h16⟩:=hk;exact Yd s w h0 h1 h2 h3 h4 h5 h6 h7 h8 h9 h10 h11 h12 h13 h14 h15 h16
 ·unfold Tk.ru Tk.words at hk
  simp only[List.any_cons,List.any_nil,Bool.or_false,Bool.or_eq_true,beq_iff_eq]at hk;rcases hk with h|h|h|h|h|h|h|h|h|h|h|h|h|h|h|h|h
  ·rw[Tk.text_eq h];exact Zv w
  ·rw[Tk.text_eq h];exact Zu w
  ·rw[Tk.text_eq h];exact Zt w
  ·rw[Tk.text_eq h];exact Zr w
  ·rw[Tk.text_eq h];exact Zq w
  ·rw[Tk.text_eq h];exact Zp w
  ·rw[Tk.text_eq h];exact Zo w
  ·rw[Tk.text_eq h];exact Zn w
  ·rw[Tk.text_eq h];exact Zm w
  ·rw[Tk.text_eq h];exact Zl w
  ·rw[Tk.text_eq h];exact Yk w
  ·rw[Tk.text_eq h];exact Yj w
  ·rw[Tk.text_eq h];exact Yi w
  ·rw[Tk.text_eq h];exact Yh w
  ·rw[Tk.text_eq h];exact Yg w
  ·rw[Tk.text_eq h];exact Yf w
  ·rw[Tk.text_eq h];exact Ye w
namespace Tk
theorem Qy(s:ByteArray)(E:Nat)(hE:E<=s.size):((s.extract 0 E).toList==s.toList)=decide (E=s.size):=by
 by_cases h:E=s.size
 ·subst h
  rw[decide_eq_true rfl];simp
 ·rw[decide_eq_false h]
  have:(s.extract 0 E).toList≠s.toList:=by
   intro e;have:=congrArg ByteArray.size (text_eq e);simp at this;omega
  simpa using this
theorem lq{s:ByteArray}(h:s.size<1∨32<s.size):isName s=false:=by
 unfold isName;rcases h with h|h
 ·rw[decide_eq_false (by omega)];rfl
 ·rw[decide_eq_false (p:=s.size<=32) (by omega)];simp
end Tk
theorem name_any(s:ByteArray)(w:World)(hk:Tk.KW w) :
  Calls Tryz.prog 105 #[.string s] w λe w'=>e=.returned (.bool (Tk.isName s))/\Below w.heap.size w w':=by
 by_cases h1:s.size<1
 ·have HN:=hid (Tk.lq (.inl h1))
  rw[HN.out];go_enter Tryz.func105,Tryz.ntmps105;go_wp2_with fail;go_ret;exact⟨rfl,Below.refl _ _⟩
 ·by_cases h2:32<s.size
  ·have HN:=hid (Tk.lq (.inr h2))
   rw[HN.out];go_enter Tryz.func105,Tryz.ntmps105;go_wp2_with fail;go_ret;exact⟨rfl,Below.refl _ _⟩
  ·have h0:0<s.size:=by omega
   have hx:s[0].toNat<256:=s[0].toNat_lt;have hb0:=Tk.jL h0;have h0i:(0:Int)<(s.size:Int):=by omega
   cases hL:Tk.cZ s[0].toNat
   ·have HN:Hid (Tk.isName s=false):=hid (by unfold Tk.isName;rw[hb0,hL];simp)
    have HL:=hid hL;clear hL hb0;rw[HN.out];go_enter Tryz.func105,Tryz.ntmps105;go_wp2_with fail;refine(gQ _ hx _).mono ?_;rintro e w1⟨rfl,rfl⟩;rw[HL.out];go_wp2_with fail;go_ret;exact⟨rfl,Below.refl _ _⟩
   ·cases hK:Tk.ru s
    ·have HN:Hid (Tk.isName s=decide (Tk.aX Tk.aW s 0=s.size)):=hid (by unfold Tk.isName;rw[hb0,hL,hK,decide_eq_true (by omega),decide_eq_true (p:=s.size<=32) (by omega)];simp)
     have HL:=hid hL;have HK:=hid hK;have HW:=hid (Tk.Qy s (Tk.aX Tk.aW s 0) (Tk.jf (by omega)));clear hL hb0 hK;rw[HN.out];go_enter Tryz.func105,Tryz.ntmps105;go_wp2_with fail;refine(gQ _ hx _).mono ?_;rintro e w1⟨rfl,rfl⟩;rw[HL.out];go_wp2_with fail;refine(CW s _ hk).mono ?_;rintro e w1⟨rfl,rfl⟩;rw[HK.out];go_wp2_with fail;refine(Gi s (by unfold maxLen;omega) _ 0 (by omega) _ (heap_alloc_new _ _)).mono ?_;rintro e w2⟨rfl,hg,hR⟩;go_wp2_with fail;go_ret;refine⟨by first|rfl|(rw[HW.out];rfl),?_⟩;exact((Below.refl _ _).alloc (xB _) _).trans (below_of_grown hg (xB _) (.inr (by simp)))
    ·have HN:Hid (Tk.isName s=false):=hid (by unfold Tk.isName;rw[hK];simp)
     have HL:=hid hL;have HK:=hid hK;clear hL hb0 hK;rw[HN.out];go_enter Tryz.func105,Tryz.ntmps105;go_wp2_with fail;refine(gQ _ hx _).mono ?_;rintro e w1⟨rfl,rfl⟩;rw[HL.out];go_wp2_with fail;refine(CW s _ hk).mono ?_;rintro e w1⟨rfl,rfl⟩;rw[HK.out];go_wp2_with fail;go_ret;exact⟨rfl,Below.refl _ _⟩
theorem Rf(s:ByteArray)(w:World) :
  Calls Tryz.prog 241 #[.string s] w λe w'=>e=.returned (.bool (Tk.isName s))/\w'=w:=by
 by_cases h1:s.size<1
 ·have HN:=hid (Tk.lq (.inl h1))
  have t0:((s.size:Int)==0)=true:=beq_iff_eq.2 (by omega);rw[HN.out];go_enter Tryz.func241,Tryz.ntmps241;go_wp2_with fail;go_ret;exact⟨rfl,rfl⟩
 ·have t0:((s.size:Int)==0)=false:=beq_eq_false_iff_ne.2 (by omega)
  by_cases h2:32<s.size
  ·have HN:=hid (Tk.lq (.inr h2))
   rw[HN.out];go_enter Tryz.func241,Tryz.ntmps241;go_wp2_with fail;go_ret;exact⟨rfl,rfl⟩
  ·have h0:0<s.size:=by omega
   have hx:s[0].toNat<256:=s[0].toNat_lt;have hb0:=Tk.jL h0;have h0i:(0:Int)<(s.size:Int):=by omega
   cases hL:Tk.cZ s[0].toNat
   ·have HN:Hid (Tk.isName s=false):=hid (by unfold Tk.isName;rw[hb0,hL];simp)
    have HL:=hid hL;clear hL hb0;rw[HN.out];go_enter Tryz.func241,Tryz.ntmps241;go_wp2_with fail;refine(bH _ hx _).mono ?_;rintro e w1⟨rfl,rfl⟩;rw[HL.out];go_wp2_with fail;go_ret;exact⟨rfl,rfl⟩
   ·cases hK:Tk.ru s
    ·have HN:Hid (Tk.isName s=decide (Tk.aX Tk.aW s 1=s.size)):=hid (by
      unfold Tk.isName;rw[hb0,hL,hK,decide_eq_true (by omega),decide_eq_true (p:=s.size<=32) (by omega),Tk.ig (p:=Tk.aW) h0 (by unfold Tk.aW;rw[hL];rfl)];simp)
     have HL:=hid hL;have HK:=hid hK;clear hL hb0 hK;rw[HN.out];clear HN;go_enter Tryz.func241,Tryz.ntmps241;go_wp2_with fail;refine(bH _ hx _).mono ?_;rintro e w1⟨rfl,rfl⟩;rw[HL.out];go_wp2_with fail;refine(Bf s _).mono ?_;rintro e w1⟨rfl,rfl⟩;rw[HK.out];go_wp2_with fail;go_loop [3] (λi=>∃ m:Nat,1<=m/\m<=s.size/\i=.int .i64 m/\Hid (Tk.aX Tk.aW s 1=Tk.aX Tk.aW s m)) (λi=>s.size - (intOf i).toNat)
     case atStart=>exact⟨1,by omega,by omega,rfl,hid rfl⟩
     case round =>
      obtain⟨m,hm1,hm,rfl,HM⟩:=hrel;by_cases hml:m<s.size
      ·have hx2:s[m].toNat<256:=s[m].toNat_lt
       have hmi:(m:Int)<(s.size:Int):=by omega
       cases h1:Tk.cZ s[m].toNat
       ·have H1:=hid h1
        cases h2:Tk.isDigit s[m].toNat
        ·have H2:=hid h2
         by_cases h3:s[m].toNat=95
         ·have HE:=hid (Tk.ig (p:=Tk.aW) hml (by unfold Tk.aW;rw[h1,h2,h3];rfl))
          have t1:((s[m].toNat:Int)==95)=true:=by simp;omega
          have t2:((s[m].toNat:Int) != 95)=false:=by simp;omega
          clear h1 h2 h3;go_wp2_with fail;refine(bH _ hx2 _).mono ?_;rintro e w1⟨rfl,rfl⟩;rw[H1.out];go_wp2_with fail;refine(bQ _ hx2 _).mono ?_;rintro e w1⟨rfl,rfl⟩;rw[H2.out];go_wp2_with fail;go_round
          case rel=>exact⟨m+1,by omega,by omega,by go_num,hid (by rw[HM.out,HE.out])⟩
          case measure=>simp[intOf];omega
         ·have HE:=hid (Tk.rV (p:=Tk.aW) hml (by unfold Tk.aW;rw[h1,h2];simp[h3]))
          have t1:((s[m].toNat:Int)==95)=false:=by simp;omega
          have t2:((s[m].toNat:Int) != 95)=true:=by simp;omega
          clear h1 h2 h3;go_wp2_with fail;refine(bH _ hx2 _).mono ?_;rintro e w1⟨rfl,rfl⟩;rw[H1.out];go_wp2_with fail;refine(bQ _ hx2 _).mono ?_;rintro e w1⟨rfl,rfl⟩;rw[H2.out];go_wp2_with fail;go_ret;exact⟨by rw[HM.out,HE.out,decide_eq_false (p:=m=s.size) (by omega)];rfl,rfl⟩
        ·have H2:=hid h2
         have HE:=hid (Tk.ig (p:=Tk.aW) hml (by unfold Tk.aW;rw[h1,h2];rfl));clear h1 h2;go_wp2_with fail;refine(bH _ hx2 _).mono ?_;rintro e w1⟨rfl,rfl⟩;rw[H1.out];go_wp2_with fail;refine(bQ _ hx2 _).mono ?_;rintro e w1⟨rfl,rfl⟩;rw[H2.out];go_wp2_with fail;go_round
         case rel=>exact⟨m+1,by omega,by omega,by go_num,hid (by rw[HM.out,HE.out])⟩
         case measure=>simp[intOf];omega
       ·have H1:=hid h1
        have HE:=hid (Tk.ig (p:=Tk.aW) hml (by unfold Tk.aW;rw[h1];rfl));clear h1;go_wp2_with fail;refine(bH _ hx2 _).mono ?_;rintro e w1⟨rfl,rfl⟩;rw[H1.out];go_wp2_with fail;go_round
        case rel=>exact⟨m+1,by omega,by omega,by go_num,hid (by rw[HM.out,HE.out])⟩
        case measure=>simp[intOf];omega
      ·obtain rfl:m=s.size:=by omega
       clear hml;go_wp2_with fail;go_ret;exact⟨by rw[HM.out,Tk.qJ (xB _),decide_eq_true (p:=s.size=s.size) rfl];rfl,rfl⟩
    ·have HN:Hid (Tk.isName s=false):=hid (by unfold Tk.isName;rw[hK];simp)
     have HL:=hid hL;have HK:=hid hK;clear hL hb0 hK;rw[HN.out];go_enter Tryz.func241,Tryz.ntmps241;go_wp2_with fail;refine(bH _ hx _).mono ?_;rintro e w1⟨rfl,rfl⟩;rw[HL.out];go_wp2_with fail;refine(Bf s _).mono ?_;rintro e w1⟨rfl,rfl⟩;rw[HK.out];go_wp2_with fail;go_ret;exact⟨rfl,rfl⟩
end
namespace Sm
def step1(c:Nat):Nat:=if c % 2=1 then c / 2 ^^^ 2197175160 else c / 2
def iV:Nat->Nat->Nat
 |0,c=>c
 |k+1,c=>step1 (iV k c)
def nD(c:Nat):Nat:=iV 8 c
def ET(c x:Nat):Nat:=nD (c ^^^ x)
def reg(c:Nat)(s:List UInt8):Nat:=s.foldl (λc x=>ET c x.toNat) c
def more(c:Nat)(s:List UInt8):Nat:=4294967295 - reg (4294967295 - c) s
def crc(s:List UInt8):Nat:=more 0 s
theorem uI(k c:Nat):iV (k+1) c=step1 (iV k c):=rfl
theorem xor_div_two(a b:Nat):(a ^^^ b) / 2=a / 2 ^^^ b / 2:=by
 have:=Nat.shiftRight_xor_distrib (a:=a) (b:=b) (i:=1);simpa[Nat.shiftRight_eq_div_pow]using this
theorem Ld(a b:Nat):(a ^^^ b) % 2=(a % 2+b % 2) % 2:=by
 have h:∀ x y:Nat,x<2->y<2->x ^^^ y=(x+y) % 2:=by
  intro x y hx hy;have hx':x=0∨x=1:=by omega
  have hy':y=0∨y=1:=by omega
  rcases hx' with rfl|rfl<;>rcases hy' with rfl|rfl<;>rfl
 have h2:=Nat.xor_mod_two_pow (a:=a) (b:=b) (n:=1);simp only[Nat.pow_one]at h2;rw[h2,h _ _ (Nat.mod_lt _ (by decide)) (Nat.mod_lt _ (by decide))]
theorem QI(a b:Nat):step1 (a ^^^ b)=step1 a ^^^ step1 b:=by
 unfold step1;rw[xor_div_two,Ld];have ha:a % 2=0∨a % 2=1:=by omega
 have hb:b % 2=0∨b % 2=1:=by omega
 rcases ha with ha|ha<;>rcases hb with hb|hb<;>simp[ha,hb]
 ·ac_rfl
 ·ac_rfl
 ·have:∀ p x y:Nat,x ^^^ y=x ^^^ p ^^^ (y ^^^ p):=by
   intro p x y;have e:x ^^^ p ^^^ (y ^^^ p)=x ^^^ y ^^^ (p ^^^ p):=by ac_rfl
   rw[e,Nat.xor_self,Nat.xor_zero]
  exact this _ _ _
theorem QG(k a b:Nat):iV k (a ^^^ b)=iV k a ^^^ iV k b:=by
 induction k with
 |zero=>rfl
 |succ k ih=>rw[uI,ih,QI];rfl
theorem QH(a b:Nat):nD (a ^^^ b)=nD a ^^^ nD b:=QG 8 a b
theorem NY(h:Nat):step1 (2 * h)=h:=by
 unfold step1;rw[if_neg (by omega)];omega
theorem Lr(k h:Nat):iV k (2 ^ k * h)=h:=by
 induction k generalizing h with
 |zero=>simp[iV]
 |succ k ih =>
  rw[uI,show 2 ^ (k+1) * h=2 ^ k * (2 * h)from by rw[Nat.pow_succ];ac_rfl,ih,NY]
theorem Ls(h:Nat):nD (256 * h)=h:=Lr 8 h
theorem TR{c:Nat}(h:c<4294967296):step1 c<4294967296:=by
 unfold step1;split
 ·exact Nat.xor_lt_two_pow (n:=32) (by omega) (by decide)
 ·omega
theorem I8(k:Nat){c:Nat}(h:c<4294967296):iV k c<4294967296:=by
 induction k with
 |zero=>exact h
 |succ k ih=>exact TR ih
theorem I9{c:Nat}(h:c<4294967296):nD c<4294967296:=I8 8 h
theorem Lh{c x:Nat}(h:c<4294967296)(hx:x<256):c ^^^ x<4294967296:=Nat.xor_lt_two_pow (n:=32) h (by omega)
theorem Vw{c x:Nat}(h:c<4294967296)(hx:x<256):ET c x<4294967296:=I9 (Lh h hx)
theorem Yl{c:Nat}(h:c<4294967296)(s:List UInt8):reg c s<4294967296:=by
 induction s generalizing c with
 |nil=>exact h
 |cons x s ih=>exact ih (Vw h x.toNat_lt)
theorem Oa(c:Nat):2 ^ 8 * (c / 2 ^ 8) ^^^ c % 2 ^ 8=c:=by
 apply Nat.eq_of_testBit_eq;intro i;rw[Nat.testBit_xor,Nat.testBit_two_pow_mul,Nat.testBit_mod_two_pow,Nat.testBit_div_two_pow];by_cases hi:i<8
 ·have h:¬8<=i:=by omega
  simp[hi,h]
 ·have h:8<=i:=by omega
  have e:i - 8+8=i:=by omega
  simp[hi,h,e]
theorem MP(c x:Nat):ET c x=c / 256 ^^^ nD (c % 256 ^^^ x):=by
 unfold ET;have h1:c ^^^ x=256 * (c / 256) ^^^ (c % 256 ^^^ x):=by
  have h:256 * (c / 256) ^^^ c % 256=c:=Oa c;rw[<-Nat.xor_assoc,h]
 rw[h1,QH,Ls]
theorem Ue(c:Nat)(s:List UInt8)(x:UInt8):reg c (s++[x])=ET (reg c s) x.toNat:=by
 unfold reg;rw[List.foldl_append,List.foldl_cons,List.foldl_nil]
theorem Xm(c:Nat)(s:List UInt8):more c s<4294967296:=by unfold more;omega
theorem Kr(s:List UInt8):crc s<4294967296:=Xm 0 s
def yw(h x:Nat):Nat:=(h ^^^ x) * 1099511628211 % 18446744073709551616
def uV(h:Nat)(s:List UInt8):Nat:=s.foldl (λh x=>yw h x.toNat) h
def print(s:List UInt8):Nat:=uV 14695981039346656037 s
theorem Ro(h x:Nat):yw h x<18446744073709551616:=Nat.mod_lt _ (by decide)
theorem Ey{h:Nat}(hh:h<18446744073709551616)(s:List UInt8):uV h s<18446744073709551616:=by
 induction s generalizing h with
 |nil=>exact hh
 |cons x s ih=>exact ih (Ro _ _)
theorem Uo(s:List UInt8):print s<18446744073709551616:=Ey (by decide) s
theorem Jd(h:Nat)(s:List UInt8)(x:UInt8):uV h (s++[x])=yw (uV h s) x.toNat:=by
 unfold uV;rw[List.foldl_append,List.foldl_cons,List.foldl_nil]
end Sm
section
open Go.BigFrame Go.RowKit
theorem take_snoc(s:ByteArray)(k:Nat)(h:k<s.size):s.data.toList.take (k+1)=s.data.toList.take k++[s[k]]:=by
 rw[List.take_succ_eq_append_getElem (by simpa using h)];rfl
namespace Sm
def base:Nat:=14695981039346656037
theorem XF:base<18446744073709551616:=by unfold base;omega
def qW(s:ByteArray)(k:Nat):Nat:=uV base (s.data.toList.take k)
theorem OB(s:ByteArray)(k:Nat):qW s k<18446744073709551616:=Ey XF _
theorem Jc(s:ByteArray)(k:Nat)(h:k<s.size):qW s (k+1)=yw (qW s k) s[k].toNat:=by
 unfold qW;rw[take_snoc s k h,Jd]
theorem OA{h x:Nat}(hh:h<18446744073709551616)(hx:x<256) :
  IntKind.u64.wrap (bits BinOp.xor IntKind.u64 (h:Int) (IntKind.u64.wrap (x:Int)) * 1099511628211)=((yw h x:Nat):Int):=by
 have e1:IntKind.u64.wrap (x:Int)=(x:Int):=by rw[IntKind.wrap_u64];omega
 rw[e1,u64_xor_nat h x hh (by omega),IntKind.wrap_u64,yw];rfl
theorem LP(s:ByteArray):qW s s.size=print s.data.toList:=by
 unfold qW print base;rw[yE (by simp)]
end Sm
theorem UE(s:ByteArray)(hs:s.size<=maxLen)(w:World) :
  Calls Tryz.prog 54 #[.string s] w λe w'=>e=.returned (.int .u64 (Sm.print s.data.toList))/\w=w':=by
 unfold maxLen at hs;go_enter Tryz.func54,Tryz.ntmps54;go_wp2;go_loop [3,7] (λr i=>∃ k:Nat,k<=s.size/\i=.int .i64 k/\r=.int .u64 (Sm.qW s k)) (λ_ i=>s.size - (intOf i).toNat)
 case atStart=>exact⟨0,by omega,rfl,rfl⟩
 case round =>
  obtain⟨k,hk,rfl,rfl⟩:=hrel;have hR:=Sm.OB s k;by_cases hlt:k<s.size
  ·have HS:=hid (Sm.Jc s k hlt)
   have HP:=hid (Sm.OA hR s[k].toNat_lt);clear hR;go_wp2;go_round
   case rel=>exact⟨k+1,by omega,by go_num,by rw[HS.out,HP.out]⟩
   case measure=>simp[intOf];omega
  ·obtain rfl:k=s.size:=by omega
   have HA:=hid (Sm.LP s);clear hlt;go_wp2;go_ret;exact⟨by rw[HA.out];rfl,rfl⟩
namespace Sm
def le4(n:Nat):List UInt8:=[UInt8.ofNat n,UInt8.ofNat (n / 256),UInt8.ofNat (n / 65536),UInt8.ofNat (n / 16777216)]
theorem ofNat_toNat(n:Nat):(UInt8.ofNat n).toNat=n % 256:=by simp
end Sm
end
section
open Go.RowKit
namespace Sm
def row0:Array Value:=Array.replicate 256 (.int .u32 0)
theorem Gl:row0.size=256:=by simp[row0]
theorem and1{x:Nat}(h:x<4294967296):bits .and .u32 (x:Int) 1=((x % 2:Nat):Int):=by
 have:=u32_and_nat x 1 h (by omega);rw[nat_mask1]at this;exact this
theorem ZC{x:Nat}(h:x<4294967296):bits .xor .u32 ((x:Int) / 2) 2197175160=((x / 2 ^^^ 2197175160:Nat):Int):=u32_xor_nat (x / 2) 2197175160 (by omega) (by omega)
theorem TQ{j k:Nat}(hc:iV j k<4294967296)(hb:iV j k % 2=1):Value.int IntKind.u32 (bits BinOp.xor IntKind.u32 (↑(iV j k) / 2) 2197175160)=Value.int IntKind.u32 ↑(iV (j+1) k):=by
 rw[ZC hc,uI,step1,if_pos hb]
theorem QF{j k:Nat}(hb:¬iV j k % 2=1):Value.int IntKind.u32 (↑(iV j k) / 2)=Value.int IntKind.u32 ↑(iV (j+1) k):=by
 rw[uI,step1,if_neg hb];rfl
def cellT(k i:Nat):Value:=if i<k then .int .u32 (nD i)else .int .u32 0
theorem Tc(k i:Nat):(if i=k then Value.int .u32 ↑(iV 8 k)else cellT k i)=cellT (k+1) i:=by
 unfold cellT;by_cases h:i=k
 ·subst h;simp[nD]
 ·by_cases h2:i<k
  ·rw[if_neg h,if_pos h2,if_pos (by omega)]
  ·rw[if_neg h,if_neg h2,if_neg (by omega)]
end Sm
theorem XK(w:World):Sem.run Tryz.prog (zeroValue 303) w=.ok (.agg Sm.row0) w:=by kernel_rfl
theorem WQ(w:World):(w.alloc (.cells Sm.row0 303)).rowIs w.heap.size 303 256 (Sm.cellT 0):=by
 have:=World.rowIs_alloc w Sm.row0 303 (Sm.cellT 0) (λi hi=>by
  rw[Sm.Gl]at hi;simp[Sm.row0,Sm.cellT,hi])
 rwa [Sm.Gl]at this
theorem table_any(w:World) :
  Calls Tryz.prog 205 #[] w λe w'=>e=.returned (.pointer (some ⟨w.heap.size,0,none⟩))/\w'.rowIs w.heap.size 303 256 (Sm.cellT 256)/\Below w.heap.size w w':=by
 have hz:=XK;have H0:=hid (WQ w);have B0:Below w.heap.size w (w.alloc (.cells Sm.row0 303)):=by go_grown
 go_enter Tryz.func205,Tryz.ntmps205;go_wp2;clear hz;go_loopw [4] (λi wr=>∃ k:Nat,k<=256/\i=.int .i64 k/\Hid (wr.rowIs w.heap.size 303 256 (Sm.cellT k))/\Below w.heap.size w wr) (λi _=>(256:Nat) - (intOf i).toNat)
 case atStart=>exact⟨0,by omega,rfl,H0,B0⟩
 case round =>
  obtain⟨k,hk,rfl,HR,HB⟩:=hrel;clear H0 B0;by_cases hlt:k<256
  ·go_wp2
   go_loop [3,9] (λc i=>∃ j:Nat,j<=8/\i=.int .i64 j/\c=.int .u32 (Sm.iV j k)) (λ_ i=>8 - (intOf i).toNat)
   case atStart=>exact⟨0,by omega,rfl,rfl⟩
   case round =>
    obtain⟨j,hj,rfl,rfl⟩:=hrel;have hc:=Sm.I8 j (c:=k) (by omega);by_cases hjl:j<8
    ·by_cases hb:Sm.iV j k % 2=1
     ·have ht:(bits BinOp.and IntKind.u32 ↑(Sm.iV j k) 1==1)=true:=by rw[Sm.and1 hc,hb];rfl
      have HS:=hid (Sm.TQ hc hb);clear hb;go_wp2;go_round
      case rel=>exact⟨j+1,by omega,by go_num,HS.out⟩
      case measure=>simp[intOf];omega
     ·have ht:(bits BinOp.and IntKind.u32 ↑(Sm.iV j k) 1==1)=false:=by
       rw[Sm.and1 hc,show Sm.iV j k % 2=0 from by omega];rfl
      have HS:=hid (Sm.QF hb);clear hb;go_wp2;go_round
      case rel=>exact⟨j+1,by omega,by go_num,HS.out⟩
      case measure=>simp[intOf];omega
    ·obtain rfl:j=8:=by omega
     clear hjl;have hcell:=HR.out.cell hlt;have hfr:=HR.out.frozen k;go_wp2;go_round
     case rel =>
      refine⟨k+1,by omega,by go_num,(HR.out.set k _).congr ?_,HB.setCell (xB _) _⟩;intro i hi;exact Sm.Tc k i
     case measure=>simp[intOf];omega
  ·obtain rfl:k=256:=by omega
   clear hlt;go_wp2;go_ret;exact⟨rfl,HR.out,HB⟩
namespace Sm
def inv(c:Nat):Nat:=4294967295 - c
theorem Yx{c:Nat}:inv c<4294967296:=by unfold inv;omega
theorem MQ{c:Nat}(h:c<4294967296):bits .xor .u32 IntKind.u32.max (c:Int)=((inv c:Nat):Int):=by
 have:=u32_xor_nat 4294967295 c (by omega) h;have e:(4294967295:Nat) ^^^ c=4294967295 - c:=by
  have:=BitVec.allOnes_xor (x:=BitVec.ofNat 32 c);have h2:=congrArg BitVec.toNat this;simp only[BitVec.toNat_xor,BitVec.toNat_allOnes,BitVec.toNat_ofNat,BitVec.toNat_not]at h2;rw[Nat.mod_eq_of_lt h]at h2;exact h2
 rw[e]at this;exact this
def pY(c:Nat)(s:ByteArray)(k:Nat):Nat:=reg (inv c) (s.data.toList.take k)
theorem Uf(c:Nat)(s:ByteArray)(k:Nat):pY c s k<4294967296:=Yl Yx _
theorem Ox(c:Nat)(s:ByteArray)(k:Nat)(h:k<s.size):pY c s (k+1)=pY c s k / 256 ^^^ nD (pY c s k % 256 ^^^ s[k].toNat):=by
 unfold pY;rw[take_snoc s k h,Ue,MP]
theorem Ri(c:Nat)(s:ByteArray):inv (pY c s s.size)=more c s.data.toList:=by
 unfold pY more inv;rw[yE (by simp)]
def pick(X x:Nat):Nat:=X % 256 ^^^ x
theorem Np{X x:Nat}(hx:x<256):pick X x<256:=Nat.xor_lt_two_pow (n:=8) (by omega) (by omega)
theorem TA{X x:Nat}(hx:x<256):bits .xor .u8 ((X:Int) % 256) (x:Int)=((pick X x:Nat):Int):=u8_xor_nat (X % 256) x (by omega) hx
def next(X x:Nat):Nat:=X / 256 ^^^ nD (X % 256 ^^^ x)
theorem TB{X x:Nat}(hX:X<4294967296)(hx:x<256):bits .xor .u32 ((X:Int) / 256) ((nD (pick X x):Nat):Int)=((next X x:Nat):Int) :=
 u32_xor_nat (X / 256) (nD (pick X x)) (by omega) (I9 (by have:=@Np X x hx;omega))
end Sm
theorem U8(c:Nat)(hc:c<4294967296)(s:ByteArray)(hs:s.size<=maxLen)(w:World) :
  Calls Tryz.prog 182 #[.int .u32 c,.string s] w λe w'=>e=.returned (.int .u32 (Sm.more c s.data.toList))/\Below w.heap.size w w':=by
 unfold maxLen at hs;have hinv:=Sm.MQ hc;go_enter Tryz.func182,Tryz.ntmps182;go_wp2_with fail;refine(table_any w).mono ?_;rintro e w1⟨rfl,hr,hb⟩;have HR:=hid hr;clear hr;go_wp2_with fail;go_loopw [0,12] (λr i wr=>∃ k:Nat,k<=s.size/\i=.int .i64 k/\r=.int .u32 (Sm.pY c s k)/\Hid (wr.rowIs w.heap.size 303 256 (Sm.cellT 256))/\Below w.heap.size w wr) (λ_ i _=>s.size - (intOf i).toNat)
 case atStart=>exact⟨0,by omega,rfl,rfl,HR,hb⟩
 case round =>
  obtain⟨k,hk,rfl,rfl,HR2,hb2⟩:=hrel;clear HR hb;have hR:=Sm.Uf c s k;by_cases hlt:k<s.size
  ·have HS:=hid (Sm.Ox c s k hlt)
   have hx:s[k].toNat<256:=s[k].toNat_lt;have hp:=Sm.Np (X:=Sm.pY c s k) hx;have e1:=Sm.TA (X:=Sm.pY c s k) hx;have e2:=Sm.TB hR hx;have hcell:=HR2.out.cell hp;have hcT:Sm.cellT 256 (Sm.pick (Sm.pY c s k) s[k].toNat)=.int .u32 (Sm.nD (Sm.pick (Sm.pY c s k) s[k].toNat)):=by unfold Sm.cellT;rw[if_pos hp]
   rw[hcT]at hcell;clear hcT;go_wp2;go_quiet (fail);go_wp2;go_roundw
   case rel=>exact⟨k+1,by omega,by go_num,by rw[HS.out];rfl,HR2,below_drewN hb2 _⟩
   case measure=>simp[intOf];omega
  ·obtain rfl:k=s.size:=by omega
   have aa3:=Sm.MQ hR;have HA:=hid (Sm.Ri c s);clear hlt;go_wp2;go_ret;exact⟨by rw[HA.out];rfl,hb2⟩
end
section
open Go.BigFrame Go.RowKit
theorem U7(c:Int)(h0:0<=c)(hc:c<4294967296)(s:ByteArray)(hs:s.size<=maxLen)(w:World) :
  Calls Tryz.prog 182 #[.int .u32 c,.string s] w λe w'=>e=.returned (.int .u32 (Sm.more c.toNat s.data.toList))/\Below w.heap.size w w':=by
 obtain⟨n,rfl⟩:=Int.eq_ofNat_of_zero_le h0;rw[Int.toNat_natCast];exact U8 n (by omega) s hs w
theorem N7(s:ByteArray)(hs:s.size<=maxLen)(w:World) :
  Calls Tryz.prog 141 #[.string s] w λe w'=>e=.returned (.int .u32 (Sm.crc s.data.toList))/\Below w.heap.size w w':=by
 go_enter Tryz.func141,Tryz.ntmps141;go_wp2_with fail;refine(U7 _ (by omega) (by omega) _ hs _).mono ?_;rintro e w1⟨rfl,hb⟩;go_wp2;go_ret;exact⟨rfl,hb⟩
namespace Sm
end Sm
namespace Sm
end Sm
namespace Sm
def yS(l:List UInt8):Nat:=(l.getD 0 0).toNat+256 * (l.getD 1 0).toNat+65536 * (l.getD 2 0).toNat+16777216 * (l.getD 3 0).toNat
theorem TK{n:Nat}(hn:n<4294967296)(r:List UInt8):yS (le4 n++r)=n:=by
 unfold yS le4;simp;omega
theorem getD_byte(s:ByteArray)(i:Nat)(h:i<s.size):s.data.toList.getD i 0=s[i]:=by
 rw[yG,yF (by simpa using h)];rfl
end Sm
namespace Sm
end Sm
theorem mV:(Tryz.prog.info? 5).map (λi=>(i.zero,i.size,i.bytes))=some (some (.int .u8 0),1,1):=by kernel_rfl
namespace Sm
def kT(x:UInt8):Value:=.int .u8 x.toNat
theorem UL{n k:Nat}(hk:k<4):(le4 n).take (k+1)=(le4 n).take k++[UInt8.ofNat (n / 256 ^ k)]:=by
 have hk':k=0∨k=1∨k=2∨k=3:=by omega
 rcases hk' with rfl|rfl|rfl|rfl<;>simp[le4]
theorem MN(n:Nat):kT (UInt8.ofNat n)=.int .u8 ((n:Int) % 256):=by unfold kT;rw[ofNat_toNat];rfl
end Sm
namespace Sm
end Sm
end
namespace Ev
def gY:Nat->Nat->List UInt8
 |0,x=>[UInt8.ofNat x]
 |f+1,x=>if x<128 then[UInt8.ofNat x]else UInt8.ofNat (x % 128+128)::gY f (x / 128)
def var(x:Nat):List UInt8:=gY 9 x
def big(x:Nat):Nat->List UInt8
 |0=>[]
 |n+1=>UInt8.ofNat (x / 256 ^ n)::big x n
def txt(s:ByteArray):List UInt8:=var s.size++s.data.toList
structure Letter where
 kind:Nat
 from_:Int
 to_:Int
 seq:Nat
 key:ByteArray
 print:Nat
 svc:ByteArray
 mth:ByteArray
 code:Int
 body:ByteArray
def Letter.zero:Letter:=⟨0,0,0,0,ByteArray.empty,0,ByteArray.empty,ByteArray.empty,0,ByteArray.empty⟩
def Letter.cells(l:Letter):List Value:=[.int .u8 l.kind,.int .i64 l.from_,.int .i64 l.to_,.int .u64 l.seq,.string l.key,.int .u64 l.print,.string l.svc,.string l.mth,.int .i64 l.code,.string l.body]
def Letter.val(l:Letter):Value:=.agg #[.int .u8 l.kind,.int .i64 l.from_,.int .i64 l.to_,.int .u64 l.seq,.string l.key,.int .u64 l.print,.string l.svc,.string l.mth,.int .i64 l.code,.string l.body]
def Letter.ok(l:Letter):Prop:=l.kind<256/\l.seq<18446744073709551616/\l.print<18446744073709551616
def peer(n:Int):Bool:=decide (0<=n)&&decide (n<4)
def right(l:Letter):Bool :=
 peer l.from_&&peer l.to_&&decide (1<=l.key.size)&&decide (l.key.size<=64)&&decide (l.body.size<=4096) &&
 (if l.kind=1∨l.kind=3 then Tk.isName l.svc&&Tk.isName l.mth&&decide (l.code=0)&&(decide (l.kind=1)||l.body.toList.isEmpty)
  else if l.kind=2∨l.kind=4 then l.svc.toList.isEmpty&&l.mth.toList.isEmpty&&decide (0<=l.code)&&decide (l.code<=999)else false)
def head(l:Letter):List UInt8 :=
 [UInt8.ofNat l.kind,UInt8.ofNat l.from_.toNat,UInt8.ofNat l.to_.toNat]++var l.seq++txt l.key++big l.print 8++txt l.svc++txt l.mth++var l.code.toNat++txt l.body
def bytes(l:Letter):List UInt8:=head l++Sm.le4 (Sm.crc (head l))
def pack(l:Letter):ByteArray × Nat:=if right l then(⟨(bytes l).toArray⟩,0)else(ByteArray.empty,1)
theorem yP(x:Nat):∀ n,(big x n).length=n
 |0=>rfl
 |n+1=>by simp[big,yP x n]
theorem Iy:∀ f x,1<=(gY f x).length/\(gY f x).length<=f+1
 |0,x=>by simp[gY]
 |f+1,x=>by
  have:=Iy f (x / 128);unfold gY;split
  ·simp
  ·simp only[xJ];omega
theorem mO(x:Nat):1<=(var x).length/\(var x).length<=10:=Iy 9 x
end Ev
section
open Go.RowKit
namespace Ev
theorem Yp:∀ z,z<256->z ||| 128=z % 128+128:=by decide +kernel
theorem Zw(y:Nat):bits .or .u8 ((y:Int) % 256) 128=((y % 128+128:Nat):Int):=by
 have h:=u8_or_nat (y % 256) 128 (by omega) (by omega);rw[Yp _ (by omega)]at h;have e:y % 256 % 128=y % 128:=by omega
 rw[e]at h;exact h
theorem FV{f y:Nat}(h:128<=y):gY (f+1) y=UInt8.ofNat (y % 128+128)::gY f (y / 128):=by
 rw[gY,if_neg (by omega)]
theorem FW{f y:Nat}(h:y<128):gY f y=[UInt8.ofNat y]:=by
 cases f with
 |zero=>rfl
 |succ f=>rw[gY,if_pos h]
theorem KF(y:Nat):Sm.kT (UInt8.ofNat (y % 128+128))=.int .u8 (bits .or .u8 ((y:Int) % 256) 128):=by
 unfold Sm.kT;rw[Sm.ofNat_toNat,Zw,Nat.mod_eq_of_lt (by omega)]
theorem Ho{y:Nat}(h:y<128):Sm.kT (UInt8.ofNat y)=.int .u8 (y:Int):=by
 unfold Sm.kT;rw[Sm.ofNat_toNat,Nat.mod_eq_of_lt (by omega)]
def Bt(w:World)(B:Nat)(v:Value)(xs:List UInt8):Prop:=w.ownsRow B 5 1 v xs.length (xs.map Sm.kT)
theorem Bt.push{w:World}{B n:Nat}{v x:Value}{xs:List UInt8}{c:UInt8}(h:w.ownsRow B 5 1 v (n+1) (xs.map Sm.kT++[x]))(hn:n=xs.length)(hx:Sm.kT c=x):Bt w B v (xs++[c]):=by
 unfold Bt;subst hn hx;rw[List.map_append,List.map_singleton,xI,List.length_singleton];exact h
theorem Bt.VX{w:World}{B:Nat}{v:Value}{xs:List UInt8}{s:ByteArray}(h:w.ownsRow B 5 1 v (xs.length+s.size) (xs.map Sm.kT++Lib.strCells s)):Bt w B v (xs++s.data.toList):=by
 unfold Bt;rw[List.map_append,xI];have e:s.data.toList.length=s.size:=by simp
 rw[e];exact h
theorem Bt.own{w:World}{B:Nat}{v:Value}{xs:List UInt8}(h:Bt w B v xs):w.ownsRow B 5 1 v xs.length (xs.map Sm.kT):=h
theorem Bt.nil(w:World)(B:Nat):Bt w B (.slice none 0 0) []:=World.ownsRow_nil _ _ _ _
end Ev
end
namespace Id
abbrev St:=List Tk.Tok × Bool
def is(s:St)(text:ByteArray):Bool:=!s.2&&(match s.1 with
 |[]=>false
 |t::_=>!(t.kind==2)&&(t.text.toList==text.toList))
def take(s:St)(text:ByteArray):Bool × St:=if is s text then(true,(s.1.tail,s.2))else(false,s)
def want(s:St)(text:ByteArray):St:=if is s text then(s.1.tail,s.2)else(s.1,true)
def one(s:St)(kind:Nat)(right:Tk.Tok->Bool):Tk.Tok × St:=match s with
 |(t::r,false)=>if t.kind=kind/\right t=true then(t,(r,false))else(⟨0,⟨#[]⟩,0,0⟩,(t::r,true))
 |(l,_)=>(⟨0,⟨#[]⟩,0,0⟩,(l,true))
end Id
section
open Go.RowKit
def Id.Typed(w:World)(g:Nat):Prop:=∃ cs fr,w.heap[g]?=some (.cells cs 171 fr)
theorem Id.Typed.lt{w:World}{g:Nat}(h:Id.Typed w g):g<w.heap.size:=by
 obtain⟨cs,fr,h⟩:=h;exact(Array.getElem?_eq_some_iff.1 h).1
theorem Id.Typed.below{w w':World}{g:Nat}(h:Id.Typed w g)(hb:Below w.heap.size w w'):Id.Typed w' g:=by
 have hl:=h.lt;obtain⟨cs,fr,h⟩:=h;exact⟨cs,fr,(hb.block g hl).trans h⟩
theorem Id.Typed.far{w:World}{g:Nat}(h:Id.Typed w g){p:Addr}(hp:g≠p.block)(u:Value):Id.Typed (w.setCell p u) g:=by
 obtain⟨cs,fr,h⟩:=h;exact⟨cs,fr,(Below.heap_setCell w p u g hp).trans h⟩
structure Id.Ps(w:World)(b:Nat)(s:Id.St):Prop where
 lies:∃ A c,Bk w b 169 #[.slice A s.1.length c,.bool s.2]/\Tk.iG w A s.1/\s.1.length<=c/\c<=9223372036854775807/\(∀ ad,A=some ad->ad.block≠b)
 typ:∀ g off n c bd,Bk w b 169 #[.slice (some ⟨g,off,none⟩) n c,.bool bd]->Id.Typed w g
theorem Id.Ar{w:World}{b n c:Nat}{A:Option Addr}{bd:Bool}(hk:Bk w b 169 #[.slice A n c,.bool bd])(ht:∀ g off,A=some ⟨g,off,none⟩->Id.Typed w g):∀ g off n c bd,Bk w b 169 #[.slice (some ⟨g,off,none⟩) n c,.bool bd]->Id.Typed w g:=by
 intro g off n' c' bd' h;unfold Bk at hk h;rw[hk]at h;simp only[Option.some.injEq,Obj.cells.injEq,Array.mk.injEq,List.cons.injEq,Value.slice.injEq]at h;exact ht g off h.1.1.1
theorem WX(b:Nat)(s:Id.St)(text:ByteArray)(w:World)(h:Id.Ps w b s) :
  Calls Tryz.prog 202 #[.pointer (some ⟨b,0,none⟩),.string text] w λe w'=>e=.returned (.bool (Id.is s text))/\w'=w:=by
 obtain⟨A,c,hk,hr,hc,hc2,hne⟩:=h.lies;obtain⟨l,bad⟩:=s;simp only at hk hr hc;obtain⟨⟨c0,c1⟩,_⟩:=hk.k2;obtain⟨R,HR⟩:∃ R,Hid (Id.is (l,bad) text=R):=⟨_,hid rfl⟩;rw[HR.out];cases bad
 case' true =>
  have HE:Hid (R=false):=hid (by rw[<-HR.out];rfl);go_enter Tryz.func202,Tryz.ntmps202;go_wp2_with fail;go_ret;exact⟨by rw[HE.out];rfl,rfl⟩
 cases l with
 |nil =>
  have HE:Hid (R=false):=hid (by rw[<-HR.out];rfl);simp only[xO]at c0;go_enter Tryz.func202,Tryz.ntmps202;go_wp2_with fail;go_ret;exact⟨by rw[HE.out];rfl,rfl⟩
 |cons t r =>
  obtain⟨g,off,rfl,hcs⟩:=hr (by simp);obtain⟨t0,t1,t2,t3⟩:=hcs 0 (by simp);simp only[Nat.zero_mul,xK,List.getElem_cons_zero]at t0 t1 t2 t3;have HE:Hid (R=(!(t.kind==2)&&(t.text.toList==text.toList))):=hid (by rw[<-HR.out];rfl);clear hr hcs HR hk;obtain⟨m,hm⟩:∃ m,m=(t::r).length:=⟨_,rfl⟩;rw[<-hm]at c0 hc;have hm0:0<m:=by rw[hm];simp
  have hm1:(0:Int)<(m:Int):=by omega
  clear hm;obtain⟨tk,tt,tn,ta⟩:=t;simp only at t0 t1 t2 t3 HE;by_cases hk2:tk=2
  ·subst hk2
   have HE2:Hid (R=false):=hid (by rw[HE.out];rfl);go_enter Tryz.func202,Tryz.ntmps202;go_wp2_with fail;go_ret;exact⟨by rw[HE2.out];rfl,rfl⟩
  ·have tk2:((tk:Int) != 2)=true:=by rw[bne_iff_ne];omega
   have HE2:Hid (R=(tt.toList==text.toList)):=hid (by rw[HE.out,beq_eq_false_iff_ne.2 hk2];rfl);clear hk2;go_enter Tryz.func202,Tryz.ntmps202;go_wp2_with fail;go_ret;exact⟨by rw[HE2.out];rfl,rfl⟩
theorem Id.oM{s:Id.St}{text:ByteArray}(h:Id.is s text=true):∃ t r,s=(t::r,false):=by
 obtain⟨l,bad⟩:=s;cases bad
 ·cases l with
  |nil=>cases h
  |cons t r=>exact⟨t,r,rfl⟩
 ·cases h
theorem Id.Ps.below{w w':World}{b:Nat}{s:Id.St}(h:Id.Ps w b s)(hb:Below w.heap.size w w'):Id.Ps w' b s:=by
 obtain⟨A,c,h1,h2,h3⟩:=h.lies;exact⟨⟨A,c,h1.below hb h1.lt,h2.below hb,h3⟩,Id.Ar (h1.below hb h1.lt) (λg off e=>by subst e;exact(h.typ _ _ _ _ _ h1).below hb)⟩
theorem Id.Ps.lt{w:World}{b:Nat}{s:Id.St}(h:Id.Ps w b s):b<w.heap.size:=by
 obtain⟨A,c,h1,h2,h3⟩:=h.lies;exact h1.lt
theorem Tk.iG.set'{w:World}{A:Option Addr}{ls:List Tk.Tok}(h:Tk.iG w A ls){b j:Nat}(hne:∀ ad,A=some ad->ad.block≠b)(v:Value):Tk.iG (w.setCell ⟨b,j,none⟩ v) A ls:=λh0=>by
 obtain⟨g,off,rfl,hc⟩:=h h0;have hb:g≠b:=hne _ rfl;have k:∀ o,(w.setCell ⟨b,j,none⟩ v).cell? ⟨g,o,none⟩=w.cell? ⟨g,o,none⟩:=λo=>World.cell?_setCell_other _ _ _ _ (by intro e;injection e with e1;exact hb e1.symm)
 exact⟨g,off,rfl,λj hj=>by rw[k,k,k,k];exact hc j hj⟩
theorem Tk.iG.tail'{w:World}{g off:Nat}{t:Tk.Tok}{r:List Tk.Tok}(h:Tk.iG w (some ⟨g,off,none⟩) (t::r)):Tk.iG w (some ⟨g,off+4,none⟩) r:=λh0=>by
 obtain⟨g',off',e,hc⟩:=h (by simp);injection e with e
 injection e with e1 e2
 subst e1 e2;refine⟨_,_,rfl,λj hj=>?_⟩;have:=hc (j+1) (by simpa using hj);rw[show off+(j+1) * 4=off+4+j * 4 by omega]at this;simpa using this
theorem Id.Ps.next{w:World}{b g off off' c c' m:Nat}{t:Tk.Tok}{r:List Tk.Tok}(hk:Bk w b 169 #[.slice (some ⟨g,off,none⟩) (m+1) c,.bool false])(hr:Tk.iG w (some ⟨g,off,none⟩) (t::r))(hm:m=r.length)(hne:∀ ad,some (⟨g,off,none⟩:Addr)=some ad->ad.block≠b)
  (hty:Id.Typed w g) (hc:c<=9223372036854775807) (hmc:m+1<=c) (h:(off'=off+4/\c'=c - 1)∨(m=0/\c'=0)):Id.Ps (w.setCell ⟨b,0,none⟩ (.slice (some ⟨g,off',none⟩) m c')) b (r,false):=by
 have hb:g≠b:=hne _ rfl;refine⟨⟨some ⟨g,off',none⟩,c',?_,?_,?_,?_,λad e=>by injection e with e;subst e;exact hb⟩,Id.Ar (hk.au 0 (.slice (some ⟨g,off',none⟩) m c')) (λg2 off2 e=>by injection e with e;injection e with e1 e2;subst e1;exact hty.far hb _)⟩
 ·have:=hk.au 0 (.slice (some ⟨g,off',none⟩) m c')
  rw[<-hm];exact this
 ·rcases h with⟨rfl,_⟩|⟨h0,_⟩
  ·exact hr.tail'.set' (λad e=>by injection e with e;subst e;exact hb) _
  ·intro h1
   simp only at h1;omega
 ·simp only
  omega
 ·omega
theorem lD(b:Nat)(s:Id.St)(text:ByteArray)(w:World)(h:Id.Ps w b s) :
  Calls Tryz.prog 162 #[.pointer (some ⟨b,0,none⟩),.string text] w λe w'=>e=.returned (.bool (Id.take s text).1)/\w.grownBy w' (some b)/\Id.Ps w' b (Id.take s text).2:=by
 have HPS:=hid h;obtain⟨R,HR⟩:∃ R,Hid (Id.take s text=R):=⟨_,hid rfl⟩;rw[HR.out];go_enter Tryz.func162,Tryz.ntmps162;go_wp2_with fail;refine(WX b s text _ h).mono ?_;rintro e w'⟨rfl,rfl⟩;cases hi:Id.is s text
 ·have HE:Hid (R=(false,s)):=hid (by rw[<-HR.out];unfold Id.take;rw[hi];rfl)
  go_wp2_with fail;go_ret;exact⟨by rw[HE.out];rfl,dL _ _,by rw[HE.out];exact HPS.out⟩
 ·obtain⟨t,r,rfl⟩:=Id.oM hi
  have HE:Hid (R=(true,(r,false))):=hid (by rw[<-HR.out];unfold Id.take;rw[hi];rfl);obtain⟨A,c,hk,hr,hc,hc2,hne⟩:=h.lies;simp only[xJ]at hk hc;obtain⟨⟨c0,c1⟩,f0,f1⟩:=hk.k2;obtain⟨g,off,rfl,hcs⟩:=hr (by simp);obtain⟨m,hm⟩:∃ m,m=r.length:=⟨_,rfl⟩;rw[<-hm]at c0 hc hk;have i1:(1:Int)<=(m:Int)+1:=by omega
  have i2:(m:Int)+1<=(c:Int):=by omega
  have i3:1<=m+1:=by omega
  have i4:m+1<=c:=by omega
  have HM:=hid hm;clear hm h;go_wp2_with fail;all_goals
   go_ret;exact⟨by rw[HE.out];rfl,bn (dL _ _) (.inl rfl) _,by rw[HE.out];exact Id.Ps.next hk hr HM.out hne (HPS.out.typ _ _ _ _ _ hk) hc2 hc (by first|exact .inl ⟨rfl,rfl⟩|exact .inr ⟨by omega,rfl⟩)⟩
theorem Id.Ps.fault{w:World}{b:Nat}{s:Id.St}(h:Id.Ps w b s):Id.Ps (w.setCell ⟨b,1,none⟩ (.bool true)) b (s.1,true):=by
 obtain⟨A,c,h1,h2,h3,h4,h5⟩:=h.lies;exact⟨⟨A,c,h1.au 1 (.bool true),h2.set' h5 _,h3,h4,h5⟩,Id.Ar (h1.au 1 (.bool true)) (λg off e=>by subst e;exact(h.typ _ _ _ _ _ h1).far (h5 _ rfl) _)⟩
theorem iq(b:Nat)(s:Id.St)(text:ByteArray)(w:World)(h:Id.Ps w b s) :
  Calls Tryz.prog 94 #[.pointer (some ⟨b,0,none⟩),.string text] w λe w'=>e=.returned (.tuple #[])/\w.grownBy w' (some b)/\Id.Ps w' b (Id.want s text):=by
 have HPS:=hid h;obtain⟨R,HR⟩:∃ R,Hid (Id.want s text=R):=⟨_,hid rfl⟩;rw[HR.out];go_enter Tryz.func94,Tryz.ntmps94;go_wp2_with fail;refine(lD b s text _ h).mono ?_;rintro e w1⟨rfl,hg,hp⟩;cases hi:Id.is s text
 ·have HT:Hid (Id.take s text=(false,s)):=hid (by unfold Id.take;rw[hi];rfl)
  have HE:Hid (R=(s.1,true)):=hid (by rw[<-HR.out];unfold Id.want;rw[hi];rfl);rw[HT.out]at hp ⊢;simp only at hp ⊢;obtain⟨A,c,hk,_⟩:=hp.lies;obtain⟨⟨c0,c1⟩,f0,f1⟩:=hk.k2;have HP:=hid hp;clear hp hk;go_wp2_with fail;refine bodyPost_end (results_none rfl _ _ _) rfl ?_;exact⟨rfl,bn hg (.inl rfl) _,by rw[HE.out];exact HP.out.fault⟩
 ·have HT:Hid (Id.take s text=(true,(s.1.tail,s.2))):=hid (by unfold Id.take;rw[hi];rfl)
  have HE:Hid (R=(s.1.tail,s.2)):=hid (by rw[<-HR.out];unfold Id.want;rw[hi];rfl);rw[HT.out]at hp ⊢;simp only at hp ⊢;go_wp2_with fail;refine bodyPost_end (results_none rfl _ _ _) rfl ?_;exact⟨rfl,hg,by rw[HE.out];exact hp⟩
theorem OD(t:Tk.Tok)(w:World)(hk:Tk.KW w) :
  Calls Tryz.prog 164 #[t.val] w λe w'=>e=.returned (.bool (Tk.isName t.text))/\Below w.heap.size w w':=by
 unfold Tk.Tok.val;go_enter Tryz.func164,Tryz.ntmps164;go_wp2_with fail;refine(name_any t.text _ (hk.below ((Below.refl _ _).alloc (xB _) _))).mono ?_;rintro e w1⟨rfl,hb⟩;go_wp2_with fail;go_ret;exact⟨rfl,N8 ((Below.refl _ _).alloc (xB _) _) hb⟩
def Id.jh:Tk.Tok:=⟨0,⟨#[]⟩,0,0⟩
theorem Rq(b:Nat)(hb0:0<b)(s:Id.St)(w:World)(hk:Tk.KW w)(h:Id.Ps w b s) :
  Calls Tryz.prog 163 #[.pointer (some ⟨b,0,none⟩),.int .u8 1,.func (.func 164) #[] #[]] w λe w'=>e=.returned (Id.one s 1 (λt=>Tk.isName t.text)).1.val/\w.grownBy w' (some b)/\Id.Ps w' b (Id.one s 1 (λt=>Tk.isName t.text)).2:=by
 have HPS:=hid h;obtain⟨R,HR⟩:∃ R,Hid (Id.one s 1 (λt=>Tk.isName t.text)=R):=⟨_,hid rfl⟩;rw[HR.out];obtain⟨A,c,hk0,hr,hc,hc2,hne⟩:=h.lies;obtain⟨l,bad⟩:=s;simp only at hk0 hr hc;have hbw:=hk0.lt;have hbn:¬b=w.heap.size:=by omega
 obtain⟨⟨c0,c1⟩,f0,f1⟩:=hk0.k2;go_enter Tryz.func163,Tryz.ntmps163;cases bad
 case' true =>
  have HE:Hid (R=(Id.jh,(l,true))):=hid (by rw[<-HR.out];cases l<;>rfl);go_wp2_with fail;refine bodyPost_ret (v:=Id.jh.val) ?_ rfl ⟨by rw[HE.out],kX (bn (dL _ _) (.inl rfl) _) _,by rw[HE.out];exact HPS.out.fault.below ((Below.refl _ _).alloc (xB _) _)⟩;rw[iM rfl];go_simp;rfl
 cases l with
 |nil =>
  have HE:Hid (R=(Id.jh,([],true))):=hid (by rw[<-HR.out];rfl);simp only[xO]at c0;go_wp2_with fail;refine bodyPost_ret (v:=Id.jh.val) ?_ rfl ⟨by rw[HE.out],kX (bn (dL _ _) (.inl rfl) _) _,by rw[HE.out];exact HPS.out.fault.below ((Below.refl _ _).alloc (xB _) _)⟩;rw[iM rfl];go_simp;rfl
 |cons t r =>
  obtain⟨g,off,rfl,hcs⟩:=hr (by simp);obtain⟨t0,t1,t2,t3⟩:=hcs 0 (by simp);simp only[Nat.zero_mul,xK,List.getElem_cons_zero]at t0 t1 t2 t3;have HX:Hid (R=if t.kind=1/\Tk.isName t.text=true then(t,(r,false))else(Id.jh,(t::r,true))):=hid (by rw[<-HR.out];rfl);clear hcs HR h;simp only[xJ]at c0 hk0 hc;obtain⟨m,hm⟩:∃ m,m=r.length:=⟨_,rfl⟩;rw[<-hm]at c0 hc hk0;have HM:=hid hm;have hm1:¬(m:Int)+1=0:=by omega
  have hm2:(0:Int)<(m:Int)+1:=by omega
  have hm3:((m:Int)+1==0)=false:=by rw[xG];omega
  have hgl:g<w.heap.size:=xH w _ t0;have hgn:¬g=w.heap.size:=by omega
  clear hm;by_cases hkd:t.kind=1
  case' neg =>
   have tkd:((t.kind:Int) != 1)=true:=by rw[bne_iff_ne];omega
   have HE:Hid (R=(Id.jh,(t::r,true))):=hid (by rw[HX.out,if_neg (λh=>hkd h.1)]);clear hkd;go_wp2_with fail;refine bodyPost_ret (v:=Id.jh.val) ?_ rfl ⟨by rw[HE.out],kX (bn (dL _ _) (.inl rfl) _) _,by rw[HE.out];exact HPS.out.fault.below ((Below.refl _ _).alloc (xB _) _)⟩;rw[iM rfl];go_simp;rfl
  have HX2:Hid (R=if Tk.isName t.text=true then(t,(r,false))else(Id.jh,(t::r,true))):=hid (by rw[HX.out];simp[hkd]);clear HX hgn;go_upto_region 1 with(fail)
  have hbl:=(Below.refl w.heap.size w).alloc (xB _) (.cells #[.int .u8 0,.string ⟨#[]⟩,.int .i64 0,.int .i64 0] 171);have hq:=Bk.new w 171 #[.int .u8 0,.string ⟨#[]⟩,.int .i64 0,.int .i64 0];have hkw:=hk.below hbl;have hk1:=hk0.below hbl hk0.lt;have hr1:=hr.below hbl;have hP1:=HPS.out.below hbl;have hg1:=aQ hbl (some b);clear hk hk0 hr HPS hbl c0 c1 f0 f1 t0 t1 t2 t3;generalize(w.alloc (.cells #[.int .u8 0,.string ⟨#[]⟩,.int .i64 0,.int .i64 0] 171))=w1 at *;generalize htb:w.heap.size=tb at *;have HTB:=hid htb;clear htb;obtain⟨⟨c0,c1⟩,f0,f1⟩:=hk1.k2;obtain⟨g',off',e,hcs⟩:=hr1 (by simp);injection e with e
  injection e with e1 e2
  subst e1 e2;obtain⟨t0,t1,t2,t3⟩:=hcs 0 (by simp);simp only[Nat.zero_mul,xK,List.getElem_cons_zero]at t0 t1 t2 t3;clear hcs;obtain⟨tk,tt,tn,ta⟩:=t;simp only at hkd t0 t1 t2 t3;subst hkd;go_wp2_with fail;refine(OD ⟨1,tt,tn,ta⟩ _ hkw).mono ?_;rintro e w2⟨rfl,hb2⟩;simp only;have hg2:=aI hg1 (aQ hb2 (some b));have hq2:=hq.below hb2 hq.lt;have hk2:=hk1.below hb2 hk1.lt;have hr2:=hr1.below hb2;have hP2:=hP1.below hb2;clear hq hk1 hr1 hP1 hg1 c0 c1 f0 f1 t0 t1 t2 t3 hb2 hkw;obtain⟨⟨c0,c1⟩,f0,f1⟩:=hk2.k2;obtain⟨⟨q0,q1,q2,q3⟩,p0,p1,p2,p3⟩:=hq2.k4;obtain⟨g',off',e,hcs⟩:=hr2 (by simp);injection e with e
  injection e with e1 e2
  subst e1 e2;obtain⟨t0,t1,t2,t3⟩:=hcs 0 (by simp);simp only[Nat.zero_mul,xK,List.getElem_cons_zero]at t0 t1 t2 t3;clear hcs;obtain⟨nm,hnm⟩:∃ nm,Tk.isName tt=nm:=⟨_,rfl⟩;rw[hnm]at HX2 ⊢;cases nm with
  |false =>
   have HE:Hid (R=(Id.jh,(⟨1,tt,tn,ta⟩::r,true))):=hid (by rw[HX2.out];simp);clear HX2 hnm;go_wp2_with fail;refine bodyPost_ret (v:=Id.jh.val) ?_ rfl ⟨by rw[HE.out],bn hg2 (.inl rfl) _,by rw[HE.out];exact hP2.fault⟩;rw[iM rfl];go_simp;rfl
  |true =>
   have HE:Hid (R=(⟨1,tt,tn,ta⟩,(r,false))):=hid (by rw[HX2.out];simp);have i1:(1:Int)<=(m:Int)+1:=by omega
   have i2:(m:Int)+1<=(c:Int):=by omega
   have i3:1<=m+1:=by omega
   have i4:m+1<=c:=by omega
   clear HX2 hnm;go_wp2_with fail;go_region;have htg:∀ ad,some (⟨g,off,none⟩:Addr)=some ad->ad.block≠tb:=λad e=>by injection e with e;subst e;show g≠tb;omega
   have hkf:=(((hk2.far (p:=⟨tb,0,none⟩) hbn (.int .u8 1)).far (p:=⟨tb,1,none⟩) hbn (.string tt)).far (p:=⟨tb,2,none⟩) hbn (.int .i64 tn)).far (p:=⟨tb,3,none⟩) hbn (.int .i64 ta);have hrf:=(((hr2.set' (j:=0) htg (.int .u8 1)).set' (j:=1) htg (.string tt)).set' (j:=2) htg (.int .i64 tn)).set' (j:=3) htg (.int .i64 ta);have htn:g≠tb:=by omega
   have hty:=((((hP2.typ _ _ _ _ _ hk2).far (p:=⟨tb,0,none⟩) htn (.int .u8 1)).far (p:=⟨tb,1,none⟩) htn (.string tt)).far (p:=⟨tb,2,none⟩) htn (.int .i64 tn)).far (p:=⟨tb,3,none⟩) htn (.int .i64 ta);have hgf:=bn (bn (bn (bn hg2 (p:=⟨tb,0,none⟩) (.inr (by rw[HTB.out];exact xB _)) (.int .u8 1)) (p:=⟨tb,1,none⟩) (.inr (by rw[HTB.out];exact xB _)) (.string tt)) (p:=⟨tb,2,none⟩) (.inr (by rw[HTB.out];exact xB _)) (.int .i64 tn)) (p:=⟨tb,3,none⟩) (.inr (by rw[HTB.out];exact xB _)) (.int .i64 ta);have hqf:=(((hq2.au 0 (.int .u8 1)).au 1 (.string tt)).au 2 (.int .i64 tn)).au 3 (.int .i64 ta);clear c0 c1 f0 f1 q0 q1 q2 q3 p0 p1 p2 p3 t0 t1 t2 t3 hk2 hr2 hq2 hg2;generalize((((w2.setCell ⟨tb,0,none⟩ (.int .u8 1)).setCell ⟨tb,1,none⟩ (.string tt)).setCell ⟨tb,2,none⟩ (.int .i64 tn)).setCell ⟨tb,3,none⟩ (.int .i64 ta))=w3 at *;have hqg:=λ(o:Nat) (u:Value)=>hqf.far (p:=⟨b,o,none⟩) (Ne.symm hbn) u
   by_cases hc1:c=1
   ·rw[if_pos hc1]
    obtain⟨⟨q0,q1,q2,q3⟩,_⟩:=(hqg 0 (.slice (some ⟨g,off,none⟩) m (c - 1))).k4;have hPf:=Id.Ps.next hkf hrf HM.out hne hty hc2 hc (off':=off) (c':=c - 1) (.inr ⟨by omega,by omega⟩);have hgg:=bn hgf (p:=⟨b,0,none⟩) (.inl rfl) (.slice (some ⟨g,off,none⟩) m (c - 1));generalize(w3.setCell ⟨b,0,none⟩ (.slice (some ⟨g,off,none⟩) m (c - 1)))=w4 at *;go_wp2_with fail;refine bodyPost_ret (v:=Tk.Tok.val ⟨1,tt,tn,ta⟩) ?_ rfl ⟨by rw[HE.out],rE hgg,by rw[HE.out];exact hPf.below (Below.refl _ _).drew⟩;rw[iM rfl];go_simp;rfl
   ·rw[if_neg hc1]
    obtain⟨⟨q0,q1,q2,q3⟩,_⟩:=(hqg 0 (.slice (some ⟨g,off+4,none⟩) m (c - 1))).k4;have hPf:=Id.Ps.next hkf hrf HM.out hne hty hc2 hc (off':=off+4) (c':=c - 1) (.inl ⟨rfl,rfl⟩);have hgg:=bn hgf (p:=⟨b,0,none⟩) (.inl rfl) (.slice (some ⟨g,off+4,none⟩) m (c - 1));generalize(w3.setCell ⟨b,0,none⟩ (.slice (some ⟨g,off+4,none⟩) m (c - 1)))=w4 at *;go_wp2_with fail;refine bodyPost_ret (v:=Tk.Tok.val ⟨1,tt,tn,ta⟩) ?_ rfl ⟨by rw[HE.out],rE hgg,by rw[HE.out];exact hPf.below (Below.refl _ _).drew⟩;rw[iM rfl];go_simp;rfl
theorem GN(a b c d:Value)(w:World):Sem.run Tryz.prog (Instr.field 171 (.agg #[a,b,c,d]) 1) w=.ok b w:=by kernel_rfl
def Id.name(s:Id.St):ByteArray × Id.St:=((Id.one s 1 (λt=>Tk.isName t.text)).1.text,(Id.one s 1 (λt=>Tk.isName t.text)).2)
theorem iw(b:Nat)(hb0:0<b)(s:Id.St)(w:World)(hk:Tk.KW w)(h:Id.Ps w b s) :
  Calls Tryz.prog 95 #[.pointer (some ⟨b,0,none⟩)] w λe w'=>e=.returned (.string (Id.name s).1)/\w.grownBy w' (some b)/\Id.Ps w' b (Id.name s).2:=by
 unfold Id.name;obtain⟨R,HR⟩:∃ R,Hid (Id.one s 1 (λt=>Tk.isName t.text)=R):=⟨_,hid rfl⟩;rw[HR.out];obtain⟨⟨tk,tt,tn,ta⟩,s2⟩:=R;go_enter Tryz.func95,Tryz.ntmps95;go_wp2_with fail;refine(Rq b hb0 s _ hk h).mono ?_;rintro e w1⟨rfl,hg,hp⟩;rw[HR.out]at hp ⊢;simp only[Tk.Tok.val]at hp ⊢;have hfl:=GN;go_wp2_with fail;go_ret;exact⟨rfl,hg,hp⟩
def Id.endW(s:ByteArray):Nat:=if s.toList=[110,111,110,101]then 1 else if s.toList=[98,111,111,108]then 2 else if s.toList=[105,110,116]then 3 else if s.toList=[116,101,120,116]then 4 else 0
theorem Dy(s:ByteArray)(w:World):Calls Tryz.prog 167 #[.string s] w λe w'=>e=.returned (.int .u8 (Id.endW s))/\w'=w:=by
 obtain⟨R,HR⟩:∃ R,Hid (Id.endW s=R):=⟨_,hid rfl⟩;rw[HR.out];go_enter Tryz.func167,Tryz.ntmps167;go_wp2_with fail;all_goals go_ret
 all_goals refine⟨?_,rfl⟩
 all_goals rw[<-HR.out];unfold Id.endW;simp_all
def Id.among(some:List ByteArray)(t:Tk.Tok):Bool:=some.any λx=>t.text.toList==x.toList
theorem LJ(pb:Nat)(A:Option Addr)(n c:Nat)(ws:List ByteArray)(hn:ws.length=n)(hm:n<=1000)(t:Tk.Tok)(w:World)(hb:w.cell? ⟨pb,0,none⟩=some (.slice A n c))(hl:Lie w A (ws.flatMap λx=>[.string x])) :
  Calls Tryz.prog 165 #[t.val,.pointer (some ⟨pb,0,none⟩)] w λe w'=>e=.returned (.bool (Id.among ws t))/\Below w.heap.size w w':=by
 have Hn:=hid hn;have Hl:=hid hl;clear hn hl;obtain⟨R,HR⟩:∃ R,Hid (Id.among ws t=R):=⟨_,hid rfl⟩;rw[HR.out];have hpb:pb<w.heap.size:=xH w _ hb;have hpn:¬pb=w.heap.size:=by omega
 unfold Tk.Tok.val;go_enter Tryz.func165,Tryz.ntmps165;go_wp2_with fail;have hbl:=(Below.refl w.heap.size w).alloc (xB _) (.cells #[.int .u8 t.kind,.string t.text,.int .i64 t.num,.int .i64 t.at_] 171);have hq:=Bk.new w 171 #[.int .u8 t.kind,.string t.text,.int .i64 t.num,.int .i64 t.at_];have HL:=hid (Hl.out.below hbl);have HB:=hid hbl;have d1:=hq.k4.1.2.1;clear hbl hq hb hpb hpn;generalize(w.alloc (.cells #[.int .u8 t.kind,.string t.text,.int .i64 t.num,.int .i64 t.at_] 171))=w1 at *;have HR0:Hid (R=Id.among (ws.drop 0) t):=hid (by rw[<-HR.out];rfl);go_loopw [8] (λi wr=>∃ k:Nat,k<=n/\i=.int .i64 k/\Hid (R=Id.among (ws.drop k) t)/\Hid (wr=w1)) (λi _=>n - (intOf i).toNat)
 case atStart=>exact⟨0,by omega,rfl,HR0,hid rfl⟩
 case round =>
  obtain⟨k,hk,rfl,HK,HW⟩:=hrel;obtain rfl:=HW.out;by_cases l1:k<n
  ·have hkl:k<ws.length:=by rw[Hn.out];exact l1
   obtain⟨ag,ao,rfl,hca⟩:=HL.out.get (f:=λx:ByteArray=>[Value.string x]) (m:=1) (λ_=>rfl) hkl (by omega);have a0:=hca 0 _ rfl;have i0:(0:Int)<=(k:Int):=by omega
   have i1:(k:Int)<(n:Int):=by omega
   have HD:Hid (R=((t.text.toList==ws[k].toList)||Id.among (ws.drop (k+1)) t)):=hid (by rw[HK.out,xQ hkl];rfl);simp only[Nat.mul_one,xK]at a0;clear hca HK HW;generalize ws[k]=x at *;cases hx:(t.text.toList==x.toList)
   ·have HE:Hid (R=Id.among (ws.drop (k+1)) t):=hid (by rw[HD.out,hx];rfl)
    clear HD;go_wp2_with fail;go_roundw
    case rel=>exact⟨k+1,by omega,by go_num,HE,hid trivial⟩
    case measure=>simp[intOf];omega
   ·have HE:Hid (R=true):=hid (by rw[HD.out,hx];rfl)
    clear HD;go_wp2_with fail;go_ret;exact⟨by rw[HE.out];rfl,HB.out⟩
  ·obtain rfl:k=n:=by omega
   have HE:Hid (R=false):=hid (by rw[HK.out,xP (by rw[Hn.out];exact xB _)];rfl);go_wp2_with fail;go_ret;exact⟨by rw[HE.out];rfl,HB.out⟩
theorem OC(pb:Nat)(A2:Option Addr)(n2 c2:Nat)(ws:List ByteArray)(hn2:ws.length=n2)(ZR:n2<=1000)(b:Nat)(s:Id.St)(w:World)(hbx:w.cell? ⟨pb,0,none⟩=some (.slice A2 n2 c2))(hlx:Lie w A2 (ws.flatMap λx=>[.string x]))(h:Id.Ps w b s) :
  Calls Tryz.prog 163 #[.pointer (some ⟨b,0,none⟩),.int .u8 1,.func (.func 165) #[] #[.pointer (some ⟨pb,0,none⟩)]] w λe w'=>e=.returned (Id.one s 1 (Id.among ws)).1.val/\w.grownBy w' (some b)/\Id.Ps w' b (Id.one s 1 (Id.among ws)).2:=by
 have HPS:=hid h;have HBX:=hid hbx;have HLX:=hid hlx;have HN2:=hid hn2;clear hbx hlx hn2;obtain⟨R,HR⟩:∃ R,Hid (Id.one s 1 (Id.among ws)=R):=⟨_,hid rfl⟩;rw[HR.out];obtain⟨A,c,hk0,hr,hc,hc2,hne⟩:=h.lies;obtain⟨l,bad⟩:=s;simp only at hk0 hr hc;have hbw:=hk0.lt;have hbn:¬b=w.heap.size:=by omega
 obtain⟨⟨c0,c1⟩,f0,f1⟩:=hk0.k2;go_enter Tryz.func163,Tryz.ntmps163;cases bad
 case' true =>
  have HE:Hid (R=(Id.jh,(l,true))):=hid (by rw[<-HR.out];cases l<;>rfl);go_wp2_with fail;refine bodyPost_ret (v:=Id.jh.val) ?_ rfl ⟨by rw[HE.out],kX (bn (dL _ _) (.inl rfl) _) _,by rw[HE.out];exact HPS.out.fault.below ((Below.refl _ _).alloc (xB _) _)⟩;rw[iM rfl];go_simp;rfl
 cases l with
 |nil =>
  have HE:Hid (R=(Id.jh,([],true))):=hid (by rw[<-HR.out];rfl);simp only[xO]at c0;go_wp2_with fail;refine bodyPost_ret (v:=Id.jh.val) ?_ rfl ⟨by rw[HE.out],kX (bn (dL _ _) (.inl rfl) _) _,by rw[HE.out];exact HPS.out.fault.below ((Below.refl _ _).alloc (xB _) _)⟩;rw[iM rfl];go_simp;rfl
 |cons t r =>
  obtain⟨g,off,rfl,hcs⟩:=hr (by simp);obtain⟨t0,t1,t2,t3⟩:=hcs 0 (by simp);simp only[Nat.zero_mul,xK,List.getElem_cons_zero]at t0 t1 t2 t3;have HX:Hid (R=if t.kind=1/\Id.among ws t=true then(t,(r,false))else(Id.jh,(t::r,true))):=hid (by rw[<-HR.out];rfl);clear hcs HR h;simp only[xJ]at c0 hk0 hc;obtain⟨m,hm⟩:∃ m,m=r.length:=⟨_,rfl⟩;rw[<-hm]at c0 hc hk0;have HM:=hid hm;have hm1:¬(m:Int)+1=0:=by omega
  have hm2:(0:Int)<(m:Int)+1:=by omega
  have hm3:((m:Int)+1==0)=false:=by rw[xG];omega
  have hgl:g<w.heap.size:=xH w _ t0;have hgn:¬g=w.heap.size:=by omega
  clear hm;by_cases hkd:t.kind=1
  case' neg =>
   have tkd:((t.kind:Int) != 1)=true:=by rw[bne_iff_ne];omega
   have HE:Hid (R=(Id.jh,(t::r,true))):=hid (by rw[HX.out,if_neg (λh=>hkd h.1)]);clear hkd;go_wp2_with fail;refine bodyPost_ret (v:=Id.jh.val) ?_ rfl ⟨by rw[HE.out],kX (bn (dL _ _) (.inl rfl) _) _,by rw[HE.out];exact HPS.out.fault.below ((Below.refl _ _).alloc (xB _) _)⟩;rw[iM rfl];go_simp;rfl
  have HX2:Hid (R=if Id.among ws t=true then(t,(r,false))else(Id.jh,(t::r,true))):=hid (by rw[HX.out];simp[hkd]);clear HX hgn;go_upto_region 1 with(fail)
  have hbl:=(Below.refl w.heap.size w).alloc (xB _) (.cells #[.int .u8 0,.string ⟨#[]⟩,.int .i64 0,.int .i64 0] 171);have hq:=Bk.new w 171 #[.int .u8 0,.string ⟨#[]⟩,.int .i64 0,.int .i64 0];have aax:=hid ((hbl.cell (p:=⟨pb,0,none⟩) (xH w _ HBX.out)).trans HBX.out);have aau:=hid (HLX.out.below hbl);clear HBX HLX;have hk1:=hk0.below hbl hk0.lt;have hr1:=hr.below hbl;have hP1:=HPS.out.below hbl;have hg1:=aQ hbl (some b);clear hk0 hr HPS hbl c0 c1 f0 f1 t0 t1 t2 t3;generalize(w.alloc (.cells #[.int .u8 0,.string ⟨#[]⟩,.int .i64 0,.int .i64 0] 171))=w1 at *;generalize htb:w.heap.size=tb at *;have HTB:=hid htb;clear htb;obtain⟨⟨c0,c1⟩,f0,f1⟩:=hk1.k2;obtain⟨g',off',e,hcs⟩:=hr1 (by simp);injection e with e
  injection e with e1 e2
  subst e1 e2;obtain⟨t0,t1,t2,t3⟩:=hcs 0 (by simp);simp only[Nat.zero_mul,xK,List.getElem_cons_zero]at t0 t1 t2 t3;clear hcs;obtain⟨tk,tt,tn,ta⟩:=t;simp only at hkd t0 t1 t2 t3;subst hkd;go_wp2_with fail;refine(LJ pb A2 n2 c2 ws HN2.out ZR ⟨1,tt,tn,ta⟩ _ aax.out aau.out).mono ?_;rintro e w2⟨rfl,hb2⟩;simp only;have hg2:=aI hg1 (aQ hb2 (some b));have hq2:=hq.below hb2 hq.lt;have hk2:=hk1.below hb2 hk1.lt;have hr2:=hr1.below hb2;have hP2:=hP1.below hb2;clear hq hk1 hr1 hP1 hg1 c0 c1 f0 f1 t0 t1 t2 t3 hb2;obtain⟨⟨c0,c1⟩,f0,f1⟩:=hk2.k2;obtain⟨⟨q0,q1,q2,q3⟩,p0,p1,p2,p3⟩:=hq2.k4;obtain⟨g',off',e,hcs⟩:=hr2 (by simp);injection e with e
  injection e with e1 e2
  subst e1 e2;obtain⟨t0,t1,t2,t3⟩:=hcs 0 (by simp);simp only[Nat.zero_mul,xK,List.getElem_cons_zero]at t0 t1 t2 t3;clear hcs;obtain⟨nm,hnm⟩:∃ nm,Id.among ws ⟨1,tt,tn,ta⟩=nm:=⟨_,rfl⟩;rw[hnm]at HX2 ⊢;cases nm with
  |false =>
   have HE:Hid (R=(Id.jh,(⟨1,tt,tn,ta⟩::r,true))):=hid (by rw[HX2.out];simp);clear HX2 hnm;go_wp2_with fail;refine bodyPost_ret (v:=Id.jh.val) ?_ rfl ⟨by rw[HE.out],bn hg2 (.inl rfl) _,by rw[HE.out];exact hP2.fault⟩;rw[iM rfl];go_simp;rfl
  |true =>
   have HE:Hid (R=(⟨1,tt,tn,ta⟩,(r,false))):=hid (by rw[HX2.out];simp);have i1:(1:Int)<=(m:Int)+1:=by omega
   have i2:(m:Int)+1<=(c:Int):=by omega
   have i3:1<=m+1:=by omega
   have i4:m+1<=c:=by omega
   clear HX2 hnm;go_wp2_with fail;go_region;have htg:∀ ad,some (⟨g,off,none⟩:Addr)=some ad->ad.block≠tb:=λad e=>by injection e with e;subst e;show g≠tb;omega
   have hkf:=(((hk2.far (p:=⟨tb,0,none⟩) hbn (.int .u8 1)).far (p:=⟨tb,1,none⟩) hbn (.string tt)).far (p:=⟨tb,2,none⟩) hbn (.int .i64 tn)).far (p:=⟨tb,3,none⟩) hbn (.int .i64 ta);have hrf:=(((hr2.set' (j:=0) htg (.int .u8 1)).set' (j:=1) htg (.string tt)).set' (j:=2) htg (.int .i64 tn)).set' (j:=3) htg (.int .i64 ta);have htn:g≠tb:=by omega
   have hty:=((((hP2.typ _ _ _ _ _ hk2).far (p:=⟨tb,0,none⟩) htn (.int .u8 1)).far (p:=⟨tb,1,none⟩) htn (.string tt)).far (p:=⟨tb,2,none⟩) htn (.int .i64 tn)).far (p:=⟨tb,3,none⟩) htn (.int .i64 ta);have hgf:=bn (bn (bn (bn hg2 (p:=⟨tb,0,none⟩) (.inr (by rw[HTB.out];exact xB _)) (.int .u8 1)) (p:=⟨tb,1,none⟩) (.inr (by rw[HTB.out];exact xB _)) (.string tt)) (p:=⟨tb,2,none⟩) (.inr (by rw[HTB.out];exact xB _)) (.int .i64 tn)) (p:=⟨tb,3,none⟩) (.inr (by rw[HTB.out];exact xB _)) (.int .i64 ta);have hqf:=(((hq2.au 0 (.int .u8 1)).au 1 (.string tt)).au 2 (.int .i64 tn)).au 3 (.int .i64 ta);clear c0 c1 f0 f1 q0 q1 q2 q3 p0 p1 p2 p3 t0 t1 t2 t3 hk2 hr2 hq2 hg2;generalize((((w2.setCell ⟨tb,0,none⟩ (.int .u8 1)).setCell ⟨tb,1,none⟩ (.string tt)).setCell ⟨tb,2,none⟩ (.int .i64 tn)).setCell ⟨tb,3,none⟩ (.int .i64 ta))=w3 at *;have hqg:=λ(o:Nat) (u:Value)=>hqf.far (p:=⟨b,o,none⟩) (Ne.symm hbn) u
   by_cases hc1:c=1
   ·rw[if_pos hc1]
    obtain⟨⟨q0,q1,q2,q3⟩,_⟩:=(hqg 0 (.slice (some ⟨g,off,none⟩) m (c - 1))).k4;have hPf:=Id.Ps.next hkf hrf HM.out hne hty hc2 hc (off':=off) (c':=c - 1) (.inr ⟨by omega,by omega⟩);have hgg:=bn hgf (p:=⟨b,0,none⟩) (.inl rfl) (.slice (some ⟨g,off,none⟩) m (c - 1));generalize(w3.setCell ⟨b,0,none⟩ (.slice (some ⟨g,off,none⟩) m (c - 1)))=w4 at *;go_wp2_with fail;refine bodyPost_ret (v:=Tk.Tok.val ⟨1,tt,tn,ta⟩) ?_ rfl ⟨by rw[HE.out],rE hgg,by rw[HE.out];exact hPf.below (Below.refl _ _).drew⟩;rw[iM rfl];go_simp;rfl
   ·rw[if_neg hc1]
    obtain⟨⟨q0,q1,q2,q3⟩,_⟩:=(hqg 0 (.slice (some ⟨g,off+4,none⟩) m (c - 1))).k4;have hPf:=Id.Ps.next hkf hrf HM.out hne hty hc2 hc (off':=off+4) (c':=c - 1) (.inl ⟨rfl,rfl⟩);have hgg:=bn hgf (p:=⟨b,0,none⟩) (.inl rfl) (.slice (some ⟨g,off+4,none⟩) m (c - 1));generalize(w3.setCell ⟨b,0,none⟩ (.slice (some ⟨g,off+4,none⟩) m (c - 1)))=w4 at *;go_wp2_with fail;refine bodyPost_ret (v:=Tk.Tok.val ⟨1,tt,tn,ta⟩) ?_ rfl ⟨by rw[HE.out],rE hgg,by rw[HE.out];exact hPf.below (Below.refl _ _).drew⟩;rw[iM rfl];go_simp;rfl
theorem O8(t:Tk.Tok)(w:World) :
  Calls Tryz.prog 168 #[t.val] w λe w'=>e=.returned (.bool true)/\Below w.heap.size w w':=by
 unfold Tk.Tok.val;go_enter Tryz.func168,Tryz.ntmps168;go_wp2_with fail;go_ret;exact⟨rfl,(Below.refl _ _).alloc (xB _) _⟩
theorem Ur(b:Nat)(s:Id.St)(w:World)(h:Id.Ps w b s) :
  Calls Tryz.prog 163 #[.pointer (some ⟨b,0,none⟩),.int .u8 2,.func (.func 168) #[] #[]] w λe w'=>e=.returned (Id.one s 2 (λ_=>true)).1.val/\w.grownBy w' (some b)/\Id.Ps w' b (Id.one s 2 (λ_=>true)).2:=by
 have HPS:=hid h;obtain⟨R,HR⟩:∃ R,Hid (Id.one s 2 (λ_=>true)=R):=⟨_,hid rfl⟩;rw[HR.out];obtain⟨A,c,hk0,hr,hc,hc2,hne⟩:=h.lies;obtain⟨l,bad⟩:=s;simp only at hk0 hr hc;have hbw:=hk0.lt;have hbn:¬b=w.heap.size:=by omega
 obtain⟨⟨c0,c1⟩,f0,f1⟩:=hk0.k2;go_enter Tryz.func163,Tryz.ntmps163;cases bad
 case' true =>
  have HE:Hid (R=(Id.jh,(l,true))):=hid (by rw[<-HR.out];cases l<;>rfl);go_wp2_with fail;refine bodyPost_ret (v:=Id.jh.val) ?_ rfl ⟨by rw[HE.out],kX (bn (dL _ _) (.inl rfl) _) _,by rw[HE.out];exact HPS.out.fault.below ((Below.refl _ _).alloc (xB _) _)⟩;rw[iM rfl];go_simp;rfl
 cases l with
 |nil =>
  have HE:Hid (R=(Id.jh,([],true))):=hid (by rw[<-HR.out];rfl);simp only[xO]at c0;go_wp2_with fail;refine bodyPost_ret (v:=Id.jh.val) ?_ rfl ⟨by rw[HE.out],kX (bn (dL _ _) (.inl rfl) _) _,by rw[HE.out];exact HPS.out.fault.below ((Below.refl _ _).alloc (xB _) _)⟩;rw[iM rfl];go_simp;rfl
 |cons t r =>
  obtain⟨g,off,rfl,hcs⟩:=hr (by simp);obtain⟨t0,t1,t2,t3⟩:=hcs 0 (by simp);simp only[Nat.zero_mul,xK,List.getElem_cons_zero]at t0 t1 t2 t3;have HX:Hid (R=if t.kind=2/\true=true then(t,(r,false))else(Id.jh,(t::r,true))):=hid (by rw[<-HR.out];rfl);clear hcs HR h;simp only[xJ]at c0 hk0 hc;obtain⟨m,hm⟩:∃ m,m=r.length:=⟨_,rfl⟩;rw[<-hm]at c0 hc hk0;have HM:=hid hm;have hm1:¬(m:Int)+1=0:=by omega
  have hm2:(0:Int)<(m:Int)+1:=by omega
  have hm3:((m:Int)+1==0)=false:=by rw[xG];omega
  have hgl:g<w.heap.size:=xH w _ t0;have hgn:¬g=w.heap.size:=by omega
  clear hm;by_cases hkd:t.kind=2
  case' neg =>
   have tkd:((t.kind:Int) != 2)=true:=by rw[bne_iff_ne];omega
   have HE:Hid (R=(Id.jh,(t::r,true))):=hid (by rw[HX.out,if_neg (λh=>hkd h.1)]);clear hkd;go_wp2_with fail;refine bodyPost_ret (v:=Id.jh.val) ?_ rfl ⟨by rw[HE.out],kX (bn (dL _ _) (.inl rfl) _) _,by rw[HE.out];exact HPS.out.fault.below ((Below.refl _ _).alloc (xB _) _)⟩;rw[iM rfl];go_simp;rfl
  have HX2:Hid (R=if true=true then(t,(r,false))else(Id.jh,(t::r,true))):=hid (by rw[HX.out];simp[hkd]);clear HX hgn;go_upto_region 1 with(fail)
  have hbl:=(Below.refl w.heap.size w).alloc (xB _) (.cells #[.int .u8 0,.string ⟨#[]⟩,.int .i64 0,.int .i64 0] 171);have hq:=Bk.new w 171 #[.int .u8 0,.string ⟨#[]⟩,.int .i64 0,.int .i64 0];have hk1:=hk0.below hbl hk0.lt;have hr1:=hr.below hbl;have hP1:=HPS.out.below hbl;have hg1:=aQ hbl (some b);clear hk0 hr HPS hbl c0 c1 f0 f1 t0 t1 t2 t3;generalize(w.alloc (.cells #[.int .u8 0,.string ⟨#[]⟩,.int .i64 0,.int .i64 0] 171))=w1 at *;generalize htb:w.heap.size=tb at *;have HTB:=hid htb;clear htb;obtain⟨⟨c0,c1⟩,f0,f1⟩:=hk1.k2;obtain⟨g',off',e,hcs⟩:=hr1 (by simp);injection e with e
  injection e with e1 e2
  subst e1 e2;obtain⟨t0,t1,t2,t3⟩:=hcs 0 (by simp);simp only[Nat.zero_mul,xK,List.getElem_cons_zero]at t0 t1 t2 t3;clear hcs;obtain⟨tk,tt,tn,ta⟩:=t;simp only at hkd t0 t1 t2 t3;subst hkd;go_wp2_with fail;refine(O8 ⟨2,tt,tn,ta⟩ _).mono ?_;rintro e w2⟨rfl,hb2⟩;simp only;have hg2:=aI hg1 (aQ hb2 (some b));have hq2:=hq.below hb2 hq.lt;have hk2:=hk1.below hb2 hk1.lt;have hr2:=hr1.below hb2;have hP2:=hP1.below hb2;clear hq hk1 hr1 hP1 hg1 c0 c1 f0 f1 t0 t1 t2 t3 hb2;obtain⟨⟨c0,c1⟩,f0,f1⟩:=hk2.k2;obtain⟨⟨q0,q1,q2,q3⟩,p0,p1,p2,p3⟩:=hq2.k4;obtain⟨g',off',e,hcs⟩:=hr2 (by simp);injection e with e
  injection e with e1 e2
  subst e1 e2;obtain⟨t0,t1,t2,t3⟩:=hcs 0 (by simp);simp only[Nat.zero_mul,xK,List.getElem_cons_zero]at t0 t1 t2 t3;clear hcs;have HE:Hid (R=(⟨2,tt,tn,ta⟩,(r,false))):=hid (by rw[HX2.out];simp);have i1:(1:Int)<=(m:Int)+1:=by omega
  have i2:(m:Int)+1<=(c:Int):=by omega
  have i3:1<=m+1:=by omega
  have i4:m+1<=c:=by omega
  clear HX2;go_wp2_with fail;go_region;have htg:∀ ad,some (⟨g,off,none⟩:Addr)=some ad->ad.block≠tb:=λad e=>by injection e with e;subst e;show g≠tb;omega
  have hkf:=(((hk2.far (p:=⟨tb,0,none⟩) hbn (.int .u8 2)).far (p:=⟨tb,1,none⟩) hbn (.string tt)).far (p:=⟨tb,2,none⟩) hbn (.int .i64 tn)).far (p:=⟨tb,3,none⟩) hbn (.int .i64 ta);have hrf:=(((hr2.set' (j:=0) htg (.int .u8 2)).set' (j:=1) htg (.string tt)).set' (j:=2) htg (.int .i64 tn)).set' (j:=3) htg (.int .i64 ta);have htn:g≠tb:=by omega
  have hty:=((((hP2.typ _ _ _ _ _ hk2).far (p:=⟨tb,0,none⟩) htn (.int .u8 2)).far (p:=⟨tb,1,none⟩) htn (.string tt)).far (p:=⟨tb,2,none⟩) htn (.int .i64 tn)).far (p:=⟨tb,3,none⟩) htn (.int .i64 ta);have hgf:=bn (bn (bn (bn hg2 (p:=⟨tb,0,none⟩) (.inr (by rw[HTB.out];exact xB _)) (.int .u8 2)) (p:=⟨tb,1,none⟩) (.inr (by rw[HTB.out];exact xB _)) (.string tt)) (p:=⟨tb,2,none⟩) (.inr (by rw[HTB.out];exact xB _)) (.int .i64 tn)) (p:=⟨tb,3,none⟩) (.inr (by rw[HTB.out];exact xB _)) (.int .i64 ta);have hqf:=(((hq2.au 0 (.int .u8 2)).au 1 (.string tt)).au 2 (.int .i64 tn)).au 3 (.int .i64 ta);clear c0 c1 f0 f1 q0 q1 q2 q3 p0 p1 p2 p3 t0 t1 t2 t3 hk2 hr2 hq2 hg2;generalize((((w2.setCell ⟨tb,0,none⟩ (.int .u8 2)).setCell ⟨tb,1,none⟩ (.string tt)).setCell ⟨tb,2,none⟩ (.int .i64 tn)).setCell ⟨tb,3,none⟩ (.int .i64 ta))=w3 at *;have hqg:=λ(o:Nat) (u:Value)=>hqf.far (p:=⟨b,o,none⟩) (Ne.symm hbn) u
  by_cases hc1:c=1
  ·rw[if_pos hc1]
   obtain⟨⟨q0,q1,q2,q3⟩,_⟩:=(hqg 0 (.slice (some ⟨g,off,none⟩) m (c - 1))).k4;have hPf:=Id.Ps.next hkf hrf HM.out hne hty hc2 hc (off':=off) (c':=c - 1) (.inr ⟨by omega,by omega⟩);have hgg:=bn hgf (p:=⟨b,0,none⟩) (.inl rfl) (.slice (some ⟨g,off,none⟩) m (c - 1));generalize(w3.setCell ⟨b,0,none⟩ (.slice (some ⟨g,off,none⟩) m (c - 1)))=w4 at *;go_wp2_with fail;refine bodyPost_ret (v:=Tk.Tok.val ⟨2,tt,tn,ta⟩) ?_ rfl ⟨by rw[HE.out],rE hgg,by rw[HE.out];exact hPf.below (Below.refl _ _).drew⟩;rw[iM rfl];go_simp;rfl
  ·rw[if_neg hc1]
   obtain⟨⟨q0,q1,q2,q3⟩,_⟩:=(hqg 0 (.slice (some ⟨g,off+4,none⟩) m (c - 1))).k4;have hPf:=Id.Ps.next hkf hrf HM.out hne hty hc2 hc (off':=off+4) (c':=c - 1) (.inl ⟨rfl,rfl⟩);have hgg:=bn hgf (p:=⟨b,0,none⟩) (.inl rfl) (.slice (some ⟨g,off+4,none⟩) m (c - 1));generalize(w3.setCell ⟨b,0,none⟩ (.slice (some ⟨g,off+4,none⟩) m (c - 1)))=w4 at *;go_wp2_with fail;refine bodyPost_ret (v:=Tk.Tok.val ⟨2,tt,tn,ta⟩) ?_ rfl ⟨by rw[HE.out],rE hgg,by rw[HE.out];exact hPf.below (Below.refl _ _).drew⟩;rw[iM rfl];go_simp;rfl
def Id.words(ws:List ByteArray)(s:Id.St):ByteArray × Id.St:=((Id.one s 1 (Id.among ws)).1.text,(Id.one s 1 (Id.among ws)).2)
theorem yY(A:Option Addr)(n c:Nat)(ws:List ByteArray)(hn:ws.length=n)(hm:n<=1000)(b:Nat)(s:Id.St)(w:World)(hl:Lie w A (ws.flatMap λx=>[.string x]))(h:Id.Ps w b s) :
  Calls Tryz.prog 96 #[.pointer (some ⟨b,0,none⟩),.slice A n c] w λe w'=>e=.returned (.string (Id.words ws s).1)/\w.grownBy w' (some b)/\Id.Ps w' b (Id.words ws s).2:=by
 unfold Id.words;obtain⟨R,HR⟩:∃ R,Hid (Id.one s 1 (Id.among ws)=R):=⟨_,hid rfl⟩;rw[HR.out];obtain⟨⟨tk,tt,tn,ta⟩,s2⟩:=R;have hbl:=(Below.refl w.heap.size w).alloc (xB _) (.cells #[.slice A n c] 94);have hq:=(Bk.new w 94 #[.slice A n c]).cell 0;go_enter Tryz.func96,Tryz.ntmps96;go_wp2_with fail;refine(OC w.heap.size A n c ws hn hm b s _ hq (hl.below hbl) (h.below hbl)).mono ?_;rintro e w1⟨rfl,hg,hp⟩;rw[HR.out]at hp ⊢;simp only[Tk.Tok.val]at hp ⊢;have hfl:=GN;go_wp2_with fail;go_ret;exact⟨rfl,aI (aQ hbl _) hg,hp⟩
end
