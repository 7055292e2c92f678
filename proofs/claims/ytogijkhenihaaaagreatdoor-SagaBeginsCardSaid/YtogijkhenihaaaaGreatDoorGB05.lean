import Derived.Test.YtogijkhenihaaaaGreatDoorGB01
import Derived.Test.YtogijkhenihaaaaGreatDoorGB03
import Derived.Deep.QuietTactic
import Derived.Lib.Bytealg
import Derived.Lib.IndexBytes
set_option linter.all false
set_option maxRecDepth 100000
set_option maxHeartbeats 0
namespace Go.Proofs.YtogijkhenihaaaaGreatDoor
open Lib (hid)
namespace Tk
def fE(x:Nat):Bool:=decide (97<=x)&&decide (x<=122)||decide (65<=x)&&decide (x<=90)
def isDigit(x:Nat):Bool:=decide (48<=x)&&decide (x<=57)
def bC(x:Nat):Bool:=fE x||isDigit x||decide (x=95)
def nR(x:Nat):Bool:=decide (x=123)||decide (x=125)||decide (x=40)||decide (x=41)||decide (x=59)||decide (x=58)||decide (x=44)||decide (x=46)
def lK(x:Nat):Bool:=decide (x=32)||decide (x=9)||decide (x=10)||decide (x=13)
theorem Gx:∀ x,x<256->(decide (97<=x ||| 32)&&decide (x ||| 32<=122))=fE x:=by decide +kernel
theorem Qe:∀ x,x<256->x ||| 32<256:=by decide +kernel
def gap:Bool->List UInt8->Nat
 |_,[]=>0
 |false,c::r=>if lK c.toNat then 1+gap false r else if c.toNat=47/\r.head?.map UInt8.toNat=some 47 then 1+gap true r else 0
 |true,c::r=>if c.toNat=10 then 1+gap false r else 1+gap true r
theorem wY:∀(b:Bool)(l:List UInt8),gap b l<=l.length
 |_,[]=>by simp[gap]
 |false,c::r=>by
  have h1:=wY false r;have h2:=wY true r;unfold gap;simp only[xJ];split
  ·omega
  ·split<;>omega
 |true,c::r=>by
  have h1:=wY false r;have h2:=wY true r;unfold gap;simp only[xJ];split<;>omega
def run(p:Nat->Bool):List UInt8->Nat
 |[]=>0
 |c::r=>if p c.toNat then 1+run p r else 0
theorem L8(p:Nat->Bool):∀(l:List UInt8),run p l<=l.length
 |[]=>by simp[run]
 |c::r=>by
  have h:=L8 p r;unfold run;simp only[xJ];split<;>omega
def Jt(n:Nat)(l:List UInt8):Nat:=l.foldl (λn c=>10 * n+(c.toNat - 48)) n
def from_(s:ByteArray)(k:Nat):List UInt8:=s.data.toList.drop k
theorem iC{s:ByteArray}{k:Nat}(h:k<s.size):from_ s k=s[k]::from_ s (k+1):=by
 unfold from_;rw[xQ (by simpa using h)];rfl
theorem vS{s:ByteArray}{k:Nat}(h:s.size<=k):from_ s k=[]:=xP (by simpa using h)
def bM(b:Bool)(s:ByteArray)(k:Nat):Nat:=k+gap b (from_ s k)
theorem kX{s:ByteArray}{k:Nat}(b:Bool)(h:s.size<=k):bM b s k=k:=by
 unfold bM;rw[vS h];cases b<;>simp[gap]
theorem rY{s:ByteArray}{k:Nat}(h:k<s.size)(hb:lK s[k].toNat=true):bM false s k=bM false s (k+1):=by
 unfold bM;rw[iC h];simp only[gap,hb,if_true];omega
theorem nU{s:ByteArray}{k:Nat}(h:k<s.size)(hb:lK s[k].toNat=false)(h2:¬(s[k].toNat=47/\∃ h':k+1<s.size,s[k+1].toNat=47)):bM false s k=k:=by
 unfold bM;rw[iC h];simp only[gap,hb];rw[if_neg (by simp),if_neg]
 ·rfl
 ·rintro⟨e1,e2⟩
  apply h2;refine⟨e1,?_⟩;by_cases h':k+1<s.size
  ·rw[iC h']at e2
   exact⟨h',by simpa using e2⟩
  ·rw[vS (by omega)]at e2
   simp at e2
theorem wz{s:ByteArray}{k:Nat}(h:k<s.size)(h':k+1<s.size)(e1:s[k].toNat=47)(e2:s[k+1].toNat=47):bM false s k=bM true s k:=by
 unfold bM;rw[iC h];simp only[gap];rw[if_neg (by rw[e1];decide),if_pos,if_neg (by omega)];rw[iC h'];exact⟨e1,by simp[e2]⟩
theorem MS{s:ByteArray}{k:Nat}(h:k<s.size)(e:s[k].toNat≠10):bM true s k=bM true s (k+1):=by
 unfold bM;rw[iC h];simp only[gap];rw[if_neg e];omega
theorem G8{s:ByteArray}{k:Nat}(h:k<s.size)(e:s[k].toNat=10):bM true s k=bM false s k:=by
 unfold bM;rw[iC h];simp only[gap];rw[if_pos e,if_pos (by rw[e];decide)]
theorem uh{s:ByteArray}{k:Nat}(b:Bool)(h:k<=s.size):bM b s k<=s.size:=by
 have:=wY b (from_ s k);unfold bM;unfold from_ at this ⊢;simp at this;omega
theorem Dn(b:Bool)(s:ByteArray)(k:Nat):k<=bM b s k:=by unfold bM;omega
def bQ(p:Nat->Bool)(s:ByteArray)(k:Nat):Nat:=k+run p (from_ s k)
theorem oL{p:Nat->Bool}{s:ByteArray}{k:Nat}(h:s.size<=k):bQ p s k=k:=by
 unfold bQ;rw[vS h];simp[run]
theorem jJ{p:Nat->Bool}{s:ByteArray}{k:Nat}(h:k<s.size)(e:p s[k].toNat=true):bQ p s k=bQ p s (k+1):=by
 unfold bQ;rw[iC h];simp only[run,e,if_true];omega
theorem qg{p:Nat->Bool}{s:ByteArray}{k:Nat}(h:k<s.size)(e:p s[k].toNat=false):bQ p s k=k:=by
 unfold bQ;rw[iC h];simp[run,e]
theorem oC{p:Nat->Bool}{s:ByteArray}{k:Nat}(h:k<=s.size):bQ p s k<=s.size:=by
 have:=L8 p (from_ s k);unfold bQ;unfold from_ at this ⊢;simp at this;omega
theorem tJ(p:Nat->Bool)(s:ByteArray)(k:Nat):k<=bQ p s k:=by unfold bQ;omega
def byte(s:ByteArray)(k:Nat):Nat:=(s.data.toList.getD k 0).toNat
theorem nI{s:ByteArray}{k:Nat}(h:k<s.size):byte s k=s[k].toNat:=by
 unfold byte;rw[yG,yF (by simpa using h)];rfl
structure Tok where
 kind:Nat
 text:ByteArray
 num:Nat
 at_:Nat
def Tok.val(t:Tok):Value:=.agg #[.int .u8 t.kind,.string t.text,.int .i64 t.num,.int .i64 t.at_]
def arrow:ByteArray:=⟨#[45,62]⟩
def empty:ByteArray:=⟨#[]⟩
def num(s:ByteArray)(k e:Nat):Nat:=Jt 0 ((s.data.toList.take e).drop k)
def aW(d:Nat)(s:ByteArray)(k:Nat):Tok × Nat :=
 if fE (byte s k)then
  let e:=bQ bC s (k+1)
  (⟨1,s.extract k e,0,k⟩,if 32<e - k then 3 else 0)
 else if isDigit (byte s k)then
  let e:=bQ isDigit s (k+1)
  if 9<e - k then(⟨2,s.extract k e,0,k⟩,3)
  else if byte s k=48/\1<e - k then(⟨2,s.extract k e,0,k⟩,110)
  else(⟨2,s.extract k e,num s k e,k⟩,0)
 else if nR (byte s k)then(⟨3,s.extract k (k+1),0,k⟩,0)
 else if byte s k=45/\k+1<s.size/\byte s (k+1)=62 then(⟨3,arrow,0,k⟩,0)
 else(⟨d,empty,0,k⟩,110)
end Tk
namespace Tk
theorem AL{x:Nat}(h:lK x=false):x≠32/\x≠9/\x≠10/\x≠13:=by
 unfold lK at h;simp at h;omega
theorem yY{x:Nat}(h:lK x=true):x=32∨x=9∨x=10∨x=13:=by
 unfold lK at h;simp at h;omega
end Tk
namespace Tk
theorem II{x:Nat}(h:nR x=true):x=123∨x=125∨x=40∨x=41∨x=59∨x=58∨x=44∨x=46:=by
 unfold nR at h;simp at h;omega
theorem Lm{x:Nat}(h:nR x=false):x≠123/\x≠125/\x≠40/\x≠41/\x≠59/\x≠58/\x≠44/\x≠46:=by
 unfold nR at h;simp at h;omega
end Tk
namespace Tk
theorem run_get(p:Nat->Bool):∀(l:List UInt8)(i:Nat)(h:i<run p l)(h2:i<l.length),p l[i].toNat=true
 |[],i,h,h2=>by simp at h2
 |c::r,0,h,h2=>by
  unfold run at h;by_cases e:p c.toNat=true
  ·exact e
  ·rw[if_neg e]at h;omega
 |c::r,i+1,h,h2=>by
  unfold run at h;by_cases e:p c.toNat=true
  ·rw[if_pos e]at h
   exact run_get p r i (by omega) (by simpa using h2)
  ·rw[if_neg e]at h;omega
theorem IX{p:Nat->Bool}{s:ByteArray}{k m:Nat}(hk:k<=m)(hm:m<bQ p s k)(hms:m<s.size):p s[m].toNat=true:=by
 have h:=run_get p (from_ s k) (m - k) (by unfold bQ at hm;omega) (by unfold from_;simp;omega);unfold from_ at h;rw[List.getElem_drop]at h;have e:k+(m - k)=m:=by omega
 simp only[e]at h;exact h
theorem kN(s:ByteArray)(k:Nat):num s k k=0:=by
 unfold num;rw[xP (by simp;omega)];rfl
theorem rU{s:ByteArray}{k m:Nat}(hk:k<=m)(hm:m<s.size):num s k (m+1)=10 * num s k m+(s[m].toNat - 48):=by
 unfold num;have e1:s.data.toList.take (m+1)=s.data.toList.take m++[s[m]]:=by
  rw[List.take_succ_eq_append_getElem (by simpa using hm)];rfl
 rw[e1,List.drop_append_of_le_length (by simp;omega)];unfold Jt;rw[List.foldl_append];rfl
theorem qo{s:ByteArray}{k m:Nat}(hk:k<=m)(hm:m<s.size)(hd:isDigit s[m].toNat=true)(h:num s k m<10 ^ (m - k)):num s k (m+1)<10 ^ (m+1 - k):=by
 rw[rU hk hm,show m+1 - k=(m - k)+1 from by omega,Nat.pow_succ];unfold isDigit at hd;simp at hd;omega
theorem tZ{n d:Nat}(h:n<10 ^ d)(hd:d<=8):n<100000000:=by
 have:10 ^ d<=10 ^ 8:=Nat.pow_le_pow_right (by omega) hd;omega
end Tk
namespace Tk
def over(b n:Nat):Nat:=if b<n then 3 else 0
end Tk
section
open Go.RowKit
namespace Tk
def Tok.cells(t:Tok):List Value:=[.int .u8 t.kind,.string t.text,.int .i64 t.num,.int .i64 t.at_]
def flat(l:List Tok):List Value:=l.flatMap Tok.cells
theorem MX(l:List Tok)(t:Tok):flat (l++[t])=flat l++t.cells:=by simp[flat]
def scan(d:Nat)(s:ByteArray):Nat->Nat->List Tok->List Tok × Nat × Nat
 |0,_,acc=>(acc,0,0)
 |f+1,k,acc=>if k<s.size then(if(aW d s k).2≠0 then([],k,(aW d s k).2)else scan d s f (bM false s (k+(aW d s k).1.text.size)) (acc++[(aW d s k).1]))else(acc,0,0)
def all(s:ByteArray):List Tok × Nat × Nat:=if 65536<s.size then([],0,3)else scan 3 s (s.size+1) (bM false s 0) []
theorem zA{d:Nat}{s:ByteArray}{k:Nat}(h:k<s.size)(h0:(aW d s k).2=0):1<=(aW d s k).1.text.size/\k+(aW d s k).1.text.size<=s.size:=by
 have a1:=tJ bC s (k+1);have a2:=oC (p:=bC) (s:=s) (k:=k+1) (by omega);have b1:=tJ isDigit s (k+1);have b2:=oC (p:=isDigit) (s:=s) (k:=k+1) (by omega);have hex:∀ e,(s.extract k e).size=min e s.size - k:=λe=>by simp
 unfold aW at h0 ⊢;split
 ·simp only[hex];omega
 ·split
  ·dsimp only
   split
   ·simp only[hex];omega
   ·split
    ·simp only[hex];omega
    ·simp only[hex];omega
  ·split
   ·simp only[hex];omega
   ·split
    ·rename_i hh
     have e:arrow.size=2:=rfl;simp only[e];omega
    ·rename_i n1 n2 n3 n4
     rw[if_neg n1,if_neg n2,if_neg n3,if_neg n4]at h0;simp at h0
end Tk
theorem Tk.LJ{w w1:World}{base:Nat}{e:TypeId}{size:Nat}{v:Value}{n:Nat}{xs:List Value}(h:w.ownsRow base e size v n xs)(hb:Below w.heap.size w w1):w1.ownsRow base e size v n xs:=by
 refine⟨h.1,?_⟩;rcases h.2 with hn|⟨g,cap,cur,rfl,hbs,hgg,rest⟩
 ·exact .inl hn
 ·exact .inr ⟨g,cap,cur,rfl,hbs,by rw[hb.block g (Array.getElem?_eq_some_iff.1 hgg).1];exact hgg,rest⟩
theorem BR(w:World)(c0 c1 c2 c3:Value)(t:TypeId):∀ j u,[c0,c1,c2,c3][j]?=some u->(w.alloc (.cells #[c0,c1,c2,c3] t)).cell? ((⟨w.heap.size,0,none⟩:Addr).add j)=some u:=by
 intro j u h;have e:((⟨w.heap.size,0,none⟩:Addr).add j)=⟨w.heap.size,j,none⟩:=by simp[Addr.add];omega
 rw[e,World.cell?_alloc_mark];simpa using h
theorem wC{P:Program}{ops:Array Oper}{rest:List Oper}{o:Oper}{a:Act}{Q:Exit->Act->World->Prop}{w0:World}(hgd:o.guard=none)(s y:Operand)(t:TypeId)
  (ho:o.op=.call { callee:=.builtin .append,args:=#[s,y],argTypes:=#[t,t] })
  (base:Nat) (e:TypeId) (z:Value) (bytes:Nat) (ht:P.underlying t=some (.slice e)) (hi:(P.info? e).map (λi=>(i.zero,i.size,i.bytes))=some (some z,4,bytes)) (hzs:z.cells.size=4)
  (v:Value) (n:Nat) (xs:List Value) (hs:a.eval s=v) (hown:w0.ownsRow base e 4 v n xs)
  (c0 c1 c2 c3:Value) (g:Nat) (hx:a.eval y=.slice (some ⟨g,0,none⟩) 1 1) (hg0:g=w0.heap.size) (h1:∀ u∈[c0,c1,c2,c3],u.oneCell'=true)
  (h63:n+1<=maxLen) (hbytes:(n+1) * bytes<=140737488355328) (hbase:base<=w0.heap.size)
  (h:∀ v' w',w'.ownsRow base e 4 v' (n+1) (xs++[c0,c1,c2,c3])->Below base w0 w'->(w0.alloc (.cells #[c0,c1,c2,c3] e)).grownBy w' v.ownBlock->wpList P ops Q rest (a.put o.dst v') w') :
  wpList P ops Q (o::rest) a (w0.alloc (.cells #[c0,c1,c2,c3] e)):=by
 subst hg0;obtain⟨i,hi0,hz0,hz1,hz2⟩:=info_parts hi;refine wpList_append_own _ hgd s y t ho base e i z 4 bytes ht hi0 hz0 hz1 hz2 hzs (by decide) v n xs hs (hown.alloc _) ⟨w0.heap.size,0,none⟩ 1 1 [c0,c1,c2,c3] hx rfl (BR _ _ _ _ _ _) h1 h63 hbytes (by simp;omega) ?_;intro v' w' hown' hg _;exact h v' w' hown' (((Below.refl base w0).alloc hbase _).grown hg (by simp;omega) (λk hk=>(hown.lt k hk).1)) hg
theorem OD:(Tryz.prog.info? 171).map (λi=>(i.zero,i.size,i.bytes))=some (some (.agg #[.int .u8 0,.string ByteArray.empty,.int .i64 0,.int .i64 0]),4,40):=by kernel_rfl
namespace Tk
def qy(w:World)(A:Option Addr)(ls:List Tok):Prop:=0<ls.length->∃ g off,A=some ⟨g,off,none⟩/\∀ j (hj:j<ls.length),
 w.cell? ⟨g,off+j * 4,none⟩=some (.int .u8 ls[j].kind)/\w.cell? ⟨g,off+j * 4+1,none⟩=some (.string ls[j].text)/\w.cell? ⟨g,off+j * 4+2,none⟩=some (.int .i64 ls[j].num)/\w.cell? ⟨g,off+j * 4+3,none⟩=some (.int .i64 ls[j].at_)
end Tk
namespace Tk
theorem qG:∀(ls:List Tok)(j:Nat)(h:j<ls.length),(flat ls).drop (j * 4)=ls[j].cells++flat (ls.drop (j+1))
 |[],j,h=>by simp at h
 |t::ls,0,h=>by simp[flat]
 |t::ls,j+1,h=>by
  have ih:=qG ls j (by simpa using h);have e:flat (t::ls)=t.cells++flat ls:=by simp[flat]
  have l4:t.cells.length=4:=rfl;rw[e,List.drop_append,xP (by omega),yI,show(j+1) * 4 - t.cells.length=j * 4 from by omega,ih];simp
theorem flat_get{ls:List Tok}{j:Nat}(h:j<ls.length)(i:Nat)(hi:i<4):(flat ls)[j * 4+i]?=ls[j].cells[i]?:=by
 have l4:ls[j].cells.length=4:=rfl;rw[<-List.getElem?_drop,qG ls j h,List.getElem?_append_left (by omega)]
theorem LH{w:World}{base:Nat}{v:Value}{ls:List Tok}(h:w.ownsRow base 171 4 v ls.length (flat ls)):∃ A c,v=.slice A ls.length c/\qy w A ls/\ls.length<=9223372036854775807:=by
 rcases h.2 with⟨rfl,h0⟩|⟨g,cap,cur,rfl,hbs,hgg,hn,hc,_⟩
 ·exact⟨none,0,by rw[h0],λe=>by omega,by omega⟩
 ·refine⟨some ⟨g,0,none⟩,cap,rfl,λ_=>⟨g,0,rfl,λj hj=>?_⟩,by unfold maxLen at hc;omega⟩
  have hc:=h.cells (g:=g) rfl;have key:∀ i (hi:i<4) u,ls[j].cells[i]?=some u->w.cell? ⟨g,0+j * 4+i,none⟩=some u:=by
   intro i hi u hu;have:=hc (j * 4+i) u (by rw[flat_get hj i hi];exact hu);have hadd:(⟨g,0,none⟩:Addr).add (j * 4+i)=⟨g,j * 4+i,none⟩:=by unfold Addr.add;split<;>simp_all
   rw[hadd]at this;rw[Nat.zero_add];exact this
  exact⟨key 0 (by omega) _ rfl,key 1 (by omega) _ rfl,key 2 (by omega) _ rfl,key 3 (by omega) _ rfl⟩
end Tk
theorem Tk.qy.below{w w':World}{A:Option Addr}{ls:List Tk.Tok}(h:Tk.qy w A ls)(hb:Below w.heap.size w w'):Tk.qy w' A ls:=by
 intro h0;obtain⟨g,off,rfl,hc⟩:=h h0;refine⟨g,off,rfl,λj hj=>?_⟩;have key:∀ o v,w.cell? ⟨g,o,none⟩=some v->w'.cell? ⟨g,o,none⟩=some v:=λo v hv=>by
  rw[hb.cell (p:=⟨g,o,none⟩) (xH w _ hv)];exact hv
 obtain⟨h1,h2,h3,h4⟩:=hc j hj;exact⟨key _ _ h1,key _ _ h2,key _ _ h3,key _ _ h4⟩
theorem nC(x:Nat)(hx:x<256)(w:World) :
  Calls Tryz.prog 169 #[.int .u8 x] w λe w'=>e=.returned (.bool (Tk.fE x))/\w=w':=by
 have e1:bits .or .u8 (x:Int) 32=((x ||| 32:Nat):Int):=u8_or_nat x 32 hx (by omega);have hl:=Tk.Gx x hx;have hlt:=Tk.Qe x hx;generalize x ||| 32=y at e1 hl hlt
 rw[<-hl];clear hl;go_enter Tryz.func169,Tryz.ntmps169;by_cases h1:97<=y
 ·by_cases h2:y<=122
  ·go_wp2
   go_ret;exact⟨by first|rfl|(simp;done)|(simp[*];done)|(simp[*];omega)|(simp;omega)|(simp_all;omega),rfl⟩
  ·go_wp2
   go_ret;exact⟨by first|rfl|(simp;done)|(simp[*];done)|(simp[*];omega)|(simp;omega)|(simp_all;omega),rfl⟩
 ·go_wp2
  go_ret;exact⟨by first|rfl|(simp;done)|(simp[*];done)|(simp[*];omega)|(simp;omega)|(simp_all;omega),rfl⟩
theorem Dx(x:Nat)(hx:x<256)(w:World) :
  Calls Tryz.prog 199 #[.int .u8 x] w λe w'=>e=.returned (.bool (Tk.isDigit x))/\w=w':=by
 unfold Tk.isDigit;go_enter Tryz.func199,Tryz.ntmps199;by_cases h1:48<=x
 ·by_cases h2:x<=57
  ·go_wp2
   go_ret;exact⟨by first|rfl|(simp;done)|(simp[*];done)|(simp[*];omega)|(simp;omega)|(simp_all;omega),rfl⟩
  ·go_wp2
   go_ret;exact⟨by first|rfl|(simp;done)|(simp[*];done)|(simp[*];omega)|(simp;omega)|(simp_all;omega),rfl⟩
 ·go_wp2
  go_ret;exact⟨by first|rfl|(simp;done)|(simp[*];done)|(simp[*];omega)|(simp;omega)|(simp_all;omega),rfl⟩
theorem MP(x:Nat)(hx:x<256)(w:World) :
  Calls Tryz.prog 172 #[.int .u8 x] w λe w'=>e=.returned (.bool (Tk.bC x))/\w=w':=by
 unfold Tk.bC;cases h1:Tk.fE x
 ·cases h2:Tk.isDigit x
  ·go_enter Tryz.func172,Tryz.ntmps172
   go_wp2_with fail;refine(nC x hx _).mono ?_;rintro e w1⟨rfl,rfl⟩;rw[h1];go_wp2_with fail;refine(Dx x hx _).mono ?_;rintro e w1⟨rfl,rfl⟩;rw[h2];by_cases h3:x=95
   ·go_wp2_with fail
    go_ret;exact⟨by first|rfl|(simp;done)|(simp[*];done)|(simp[*];omega)|(simp;omega)|(simp_all;omega),rfl⟩
   ·go_wp2_with fail
    go_ret;exact⟨by first|rfl|(simp;done)|(simp[*];done)|(simp[*];omega)|(simp;omega)|(simp_all;omega),rfl⟩
  ·go_enter Tryz.func172,Tryz.ntmps172
   go_wp2_with fail;refine(nC x hx _).mono ?_;rintro e w1⟨rfl,rfl⟩;rw[h1];go_wp2_with fail;refine(Dx x hx _).mono ?_;rintro e w1⟨rfl,rfl⟩;rw[h2];go_wp2_with fail;go_ret;exact⟨by simp,rfl⟩
 ·go_enter Tryz.func172,Tryz.ntmps172
  go_wp2_with fail;refine(nC x hx _).mono ?_;rintro e w1⟨rfl,rfl⟩;rw[h1];go_wp2_with fail;go_ret;exact⟨by simp,rfl⟩
theorem AQ(w:World)(r:Option Nat):w.grownBy w r:=⟨rfl,rfl,rfl,xB _,λ_ _ _=>rfl⟩
theorem dN{a b c:World}{r:Option Nat}(h:a.grownBy b r)(k:b.grownBy c r):a.grownBy c r :=
 ⟨k.os.trans h.os,k.tape.trans h.tape,k.output.trans h.output,xM h.size k.size,λi hi hn=>(k.block i (Nat.lt_of_lt_of_le hi h.size) hn).trans (h.block i hi hn)⟩
theorem grown_drewN(w:World)(n:Nat)(r:Option Nat):w.grownBy (w.drewN n) r:=⟨rfl,rfl,rfl,xB _,λ_ _ _=>rfl⟩
theorem kQ(w:World)(b j:Nat)(v:Value):w.grownBy (w.setCell ⟨b,j,none⟩ v) (some b) :=
 ⟨rfl,rfl,rfl,by simp,λk _ hne=>Below.heap_setCell _ _ _ _ (by intro e;exact hne (by rw[e]))⟩
theorem below_of_grown{w w':World}{b B:Nat}(h:w.grownBy w' (some b))(hB:B<=b)(hb:b<=w.heap.size∨B<=w.heap.size):Below B w w' :=
 ⟨h.os,h.tape,h.output,h.size,λk hk=>h.block k (by have:=h.size;omega) (by intro e;cases e;omega)⟩
theorem pV{P:Program}{f:FuncId}{args:Array Value}{w:World}{q n:Nat}{v:Value}(h:∀ w0:World,Calls P f args w0 λe w'=>e=.returned v/\w'=w0) :
  Calls P f args (w.drewN (q+n)) λe w''=>e=.returned v/\∃ m,w''=w.drewN (q+m) :=
 (h _).mono λ_ _ ⟨he,hm⟩=>⟨he,n,hm⟩
theorem oJ{P:Program}{f:FuncId}{args:Array Value}{v v':Value}(h:∀ w0:World,Calls P f args w0 λe w'=>e=.returned v/\w'=w0)(e:v=v')(w0:World) :
  Calls P f args w0 λe w'=>e=.returned v'/\w'=w0:=by subst e;exact h w0
namespace Tk
def Rd(w:World)(b:Nat)(s:ByteArray)(k:Nat):Prop:=w.heap[b]?=some (.cells #[.string s,.int .i64 k] 235 (0,0))
theorem Rd.c0{w:World}{b:Nat}{s:ByteArray}{k:Nat}(h:Rd w b s k):w.cell? ⟨b,0,none⟩=some (.string s):=by rw[cell_of_row w b 0 _ _ _ h];rfl
theorem Rd.c1{w:World}{b:Nat}{s:ByteArray}{k:Nat}(h:Rd w b s k):w.cell? ⟨b,1,none⟩=some (.int .i64 k):=by rw[cell_of_row w b 1 _ _ _ h];rfl
theorem Rd.f1{w:World}{b:Nat}{s:ByteArray}{k:Nat}(h:Rd w b s k):w.frozen? ⟨b,1,none⟩=false:=frozen_of_row w b 1 _ _ h
theorem Rd.set{w:World}{b:Nat}{s:ByteArray}{k:Nat}(h:Rd w b s k)(j:Nat):Rd (w.setCell ⟨b,1,none⟩ (.int .i64 j)) b s j:=by
 have hlt:=lt_of_block h;unfold Rd at h;have h':w.heap[b]=.cells #[.string s,.int .i64 k] 235 (0,0):=by simpa[yD hlt]using h
 show(w.heap.modify b _)[b]?=_
 rw[yD (by simpa using hlt),Array.getElem_modify_self,h'];rfl
theorem OW(c:UInt8)(r:List UInt8):gap true (c::r)=if c.toNat=10 then 1+gap false r else 1+gap true r:=by rw[gap]
theorem F7(b c:UInt8)(l:List UInt8):Lib.indexByte (b::l) c=if b==c then 0 else if Lib.indexByte l c==-1 then -1 else Lib.indexByte l c+1:=rfl
theorem G6(r:List UInt8):gap false (10::r)=1+gap false r:=by rw[gap];rfl
theorem Iw(l:List UInt8):gap true l=if Lib.indexByte l 10=-1 then l.length else(Lib.indexByte l 10).toNat+gap false (l.drop (Lib.indexByte l 10).toNat):=by
 induction l with
 |nil=>rfl
 |cons c r ih =>
  have hge:=Lib.indexByte_ge r 10;rw[OW,F7];by_cases hc:c=10
  ·subst hc
   have e:((10:UInt8)==10)=true:=rfl;simp only[e,if_true];rw[if_pos (show(10:UInt8).toNat=10 from rfl),if_neg (by omega)];simp[G6]
  ·have hn:c.toNat≠10:=λe=>hc (by apply UInt8.toNat_inj.1;rw[e];rfl)
   rw[if_neg hn,ih];have hb:(c==10)=false:=by simpa using hc
   simp only[hb,Bool.false_eq_true,if_false];by_cases hm:Lib.indexByte r 10=-1
   ·simp[hm];omega
   ·rw[if_neg hm]
    have hb2:(Lib.indexByte r 10==-1)=false:=by simpa using hm
    simp only[hb2,Bool.false_eq_true,if_false];rw[if_neg (by omega),show(Lib.indexByte r 10+1).toNat=(Lib.indexByte r 10).toNat+1 from by omega,List.drop_succ_cons];omega
theorem indexByte_lt(l:List UInt8)(c:UInt8)(h:l≠[]):Lib.indexByte l c<l.length:=by
 induction l with
 |nil=>exact absurd rfl h
 |cons b r ih =>
  have hge:=Lib.indexByte_ge r c;unfold Lib.indexByte;simp only[xJ];split
  ·omega
  ·split
   ·omega
   ·rename_i h1 h2
    by_cases hr:r=[]
    ·subst hr;exact absurd rfl h2
    ·have:=ih hr;omega
theorem oQ(s:ByteArray)(k:Nat):(s.extract k s.size).data.toList=from_ s k:=by
 unfold from_;rw[Lib.extract_to_end]
theorem JB{s:ByteArray}{k:Nat}(h:k<s.size){j:Nat}(e:Lib.indexByte (from_ s k) 10=(j:Int)):bM true s k=bM false s (k+j)/\k+j<s.size:=by
 have hl:=indexByte_lt (from_ s k) 10 (by rw[iC h];simp);have hlen:(from_ s k).length=s.size - k:=by unfold from_;simp
 have hg:=Iw (from_ s k);rw[e]at hg hl;rw[if_neg (by omega)]at hg;refine⟨?_,by omega⟩;unfold bM;rw[hg];simp only[Int.toNat_natCast];unfold from_;rw[List.drop_drop];omega
theorem Qq{s:ByteArray}{k:Nat}(h:k<s.size)(hne:s[k]≠10){j:Nat}(e:Lib.indexByte (from_ s k) 10=(j:Int)):1<=j:=by
 rw[iC h,F7]at e;have hb:(s[k]==10)=false:=by simpa using hne
 have hge:=Lib.indexByte_ge (from_ s (k+1)) 10;rw[if_neg (by simp[hb])]at e;by_cases hm:Lib.indexByte (from_ s (k+1)) 10=-1
 ·rw[if_pos (by simp[hm])]at e;omega
 ·rw[if_neg (by simpa using hm)]at e;omega
theorem G7{s:ByteArray}{k:Nat}(h:k<=s.size)(e:Lib.indexByte (from_ s k) 10=-1):bM true s k=s.size:=by
 have hlen:(from_ s k).length=s.size - k:=by unfold from_;simp
 have hg:=Iw (from_ s k);rw[if_pos e]at hg;unfold bM;omega
theorem Qa{s:ByteArray}{k:Nat}(a b:UInt8)(h:k<s.size):Lib.hasPrefix (from_ s k) [a,b]=true↔(s[k]=a/\∃ h':k+1<s.size,s[k+1]=b):=by
 unfold Lib.hasPrefix;rw[iC h];by_cases h':k+1<s.size
 ·rw[iC h']
  simp only[List.isPrefixOf,Bool.and_true,xX,beq_iff_eq];constructor
  ·rintro⟨h1,h2⟩;exact⟨h1.symm,h',h2.symm⟩
  ·rintro⟨h1,_,h2⟩;exact⟨h1.symm,h2.symm⟩
 ·rw[vS (by omega)]
  simp only[List.isPrefixOf,Bool.and_false];constructor
  ·intro e;cases e
  ·rintro⟨_,h2,_⟩;exact absurd h2 h'
end Tk
theorem Tz(s:ByteArray)(hs:s.size<=maxLen)(b k:Nat)(hk:k<=s.size)(w:World)(h:Tk.Rd w b s k) :
  Calls Tryz.prog 198 #[.pointer (some ⟨b,0,none⟩)] w λe w'=>e=.returned (.tuple #[])/\w.grownBy w' (some b)/\Tk.Rd w' b s (Tk.bM false s k):=by
 have hs2:=hs;unfold maxLen at hs;go_enter Tryz.func198,Tryz.ntmps198;go_wp2;go_loopg [2] (s.size - k+1) (λn c wr=>∃ j,n=s.size - j+1/\j<=s.size/\Tk.Rd wr b s j/\Hid (Tk.bM false s k=Tk.bM false s j)/\w.grownBy wr (some b))
 case atStart=>exact⟨k,rfl,hk,h,hid rfl,AQ _ _⟩
 case round =>
  obtain⟨j,rfl,hj,hR,HG,hgr⟩:=hrel;have c0:=hR.c0;have c1:=hR.c1;have f1:=hR.f1;by_cases hlt:j<s.size
  ·have hx:s[j].toNat<256:=s[j].toNat_lt
   have hji:(j:Int)<(s.size:Int):=by omega
   have hjs:(j:Int)+1<=9223372036854775807:=by omega
   go_wp2;go_quiet (fail);go_wp2;go_quiet (fail);cases hb:Tk.lK s[j].toNat
   ·obtain⟨n1,n2,n3,n4⟩:=Tk.AL hb
    have t1:((s[j].toNat:Int)==32)=false:=by simp;omega
    have t2:((s[j].toNat:Int)==9)=false:=by simp;omega
    have t3:((s[j].toNat:Int)==10)=false:=by simp;omega
    have t4:((s[j].toNat:Int)==13)=false:=by simp;omega
    have hp:=Tk.Qa (s:=s) (k:=j) 47 47 hlt;cases hpp:Lib.hasPrefix (Tk.from_ s j) [47,47]
    ·have HS:=hid (Tk.nU hlt hb (by
      rintro⟨e1,h',e2⟩;have:=hp.2 ⟨UInt8.toNat_inj.1 e1,h',UInt8.toNat_inj.1 e2⟩;rw[hpp]at this;cases this))
     have HP:=hid hpp;have HC:=hid (oJ (Tryz.strings_HasPrefix (s.extract j s.size) ⟨#[47,47]⟩) (v':=.bool false) (by rw[Tk.oQ,hpp]));clear hb n1 n2 n3 n4 hp hpp;go_wp2;go_quiet ((go_at_call 201;go_must(exact pV HC.out)));go_wp2;(try simp only[Exit.inBlock,Exit.then])
     refine bodyPost_ret (results_none rfl _ _ _) rfl ?_;exact⟨rfl,(by repeat(first|exact hgr|refine dN ?_ (grown_drewN _ _ _)|refine dN ?_ (kQ _ _ _ _))),by rw[HG.out,HS.out];exact hR⟩
    ·have hp':=hp.1 hpp
     obtain⟨e1,h2,e2⟩:=hp';have HS:=hid (Tk.wz hlt h2 (by rw[e1];rfl) (by rw[e2];rfl));have HC:=hid (oJ (Tryz.strings_HasPrefix (s.extract j s.size) ⟨#[47,47]⟩) (v':=.bool true) (by rw[Tk.oQ,hpp]));clear hb n1 n2 n3 n4 hp hpp e2;by_cases hi:Lib.indexByte (Tk.from_ s j) 10=-1
     ·have HD:=hid (oJ (Tryz.strings_IndexByte (s.extract j s.size) 10) (v':=.int .i64 (-1)) (by rw[Tk.oQ];exact congrArg _ hi))
      have HE:=hid (Tk.G7 hj hi);clear hi e1;go_wp2;go_quiet ((go_at_call 201;go_must(exact pV HC.out)));go_wp2;go_quiet ((go_at_call 200;go_must(exact pV HD.out)));go_wp2;go_roundg 1
      case rel=>exact⟨s.size,by omega,xB _,Tk.Rd.set hR _,hid (by rw[HG.out,HS.out,HE.out,Tk.kX _ (xB _)]),(by repeat(first|exact hgr|refine dN ?_ (grown_drewN _ _ _)|refine dN ?_ (kQ _ _ _ _)))⟩
      case measure=>omega
     ·have hge:=Lib.indexByte_ge (Tk.from_ s j) 10
      obtain⟨d,hd⟩:∃ d:Nat,Lib.indexByte (Tk.from_ s j) 10=(d:Int):=⟨(Lib.indexByte (Tk.from_ s j) 10).toNat,by omega⟩;have HD:=hid (oJ (Tryz.strings_IndexByte (s.extract j s.size) 10) (v':=.int .i64 d) (by rw[Tk.oQ];exact congrArg _ hd));obtain⟨he1,he2⟩:=Tk.JB hlt hd;have hd1:=Tk.Qq hlt (by rw[e1];decide) hd;have hjd:(j:Int)+(d:Int)<=9223372036854775807:=by omega
      have HE:=hid he1;clear hi hge hd he1 e1;go_wp2;go_quiet ((go_at_call 201;go_must(exact pV HC.out)));go_wp2;go_quiet ((go_at_call 200;go_must(exact pV HD.out)));go_wp2;rw[show(j:Int)+(d:Int)=((j+d:Nat):Int)from by simp];go_roundg (s.size - (j+d)+1)
      case rel=>exact⟨j+d,rfl,by omega,Tk.Rd.set hR _,hid (by rw[HG.out,HS.out,HE.out]),(by repeat(first|exact hgr|refine dN ?_ (grown_drewN _ _ _)|refine dN ?_ (kQ _ _ _ _)))⟩
      case measure=>omega
   ·have HS:=hid (Tk.rY hlt hb)
    rcases Tk.yY hb with h|h|h|h
    all_goals
     have ht:=hid h;clear hb;go_wp2;rw[show(j:Int)+1=((j+1:Nat):Int)from by simp];go_roundg (s.size - (j+1)+1)
     case rel=>exact⟨j+1,rfl,by omega,Tk.Rd.set hR _,hid (by rw[HG.out,HS.out]),(by repeat(first|exact hgr|refine dN ?_ (grown_drewN _ _ _)|refine dN ?_ (kQ _ _ _ _)))⟩
     case measure=>omega
  ·obtain rfl:j=s.size:=by omega
   go_wp2;go_quiet (fail);go_wp2;go_end0;exact⟨rfl,(by repeat(first|exact hgr|refine dN ?_ (grown_drewN _ _ _)|refine dN ?_ (kQ _ _ _ _))),by rw[HG.out,Tk.kX _ (xB _)];exact hR⟩
theorem yx{P : Program}{f : FuncId}{fn : Func}(hf : P.funcs[f]? = some fn)(hn : (fn.name == "runtime.NumGoroutine") = false)(hb : fn.body.isNone = false)(args : Array Value)(w : World) :
  (callFunc f args).run P w=.ok (.enter f args) w:=by
 have h1 : ¬ fn.name = "runtime.NumGoroutine" := by simpa using hn
 have h2:¬fn.body=none:=by intro e;rw[e]at hb;cases hb
 simp[callFunc,hf,h1,h2]
theorem run_any(f:FuncId)(p:Nat->Bool)(hc:∀(args:Array Value)(w:World),(callFunc f args).run Tryz.prog w=.ok (.enter f args) w)(hf:Hid (∀(x:Nat)(hx:x<256)(w:World),Calls Tryz.prog f #[.int .u8 x] w λe w'=>e=.returned (.bool (p x))/\w'=w))
  (s:ByteArray) (hs:s.size<=maxLen) (b k:Nat) (hk:k<=s.size) (w:World) (h:Tk.Rd w b s k) :
  Calls Tryz.prog 171 #[.pointer (some ⟨b,0,none⟩),.func (.func f) #[] #[]] w λe w'=>e=.returned (.string (s.extract k (Tk.bQ p s k)))/\w.grownBy w' (some b)/\Tk.Rd w' b s (Tk.bQ p s k):=by
 unfold maxLen at hs;have c0:=h.c0;have c1:=h.c1;go_enter Tryz.func171,Tryz.ntmps171;go_wp2;clear c0 c1;go_loopg [32] (s.size - k+1) (λn c wr=>∃ j,n=s.size - j+1/\k<=j/\j<=s.size/\Tk.Rd wr b s j/\Hid (Tk.bQ p s k=Tk.bQ p s j)/\w.grownBy wr (some b))
 case atStart=>exact⟨k,rfl,xB _,hk,h,hid rfl,AQ _ _⟩
 case round =>
  obtain⟨j,rfl,hkj,hj,hR,HG,hgr⟩:=hrel;have c0:=hR.c0;have c1:=hR.c1;have f1:=hR.f1;by_cases hlt:j<s.size
  ·have hx:s[j].toNat<256:=s[j].toNat_lt
   have hji:(j:Int)<(s.size:Int):=by omega
   have hjs:(j:Int)+1<=9223372036854775807:=by omega
   cases hp:p s[j].toNat
   ·have HS:=hid (Tk.qg (p:=p) hlt hp)
    have HC:=hid (oJ (hf.out s[j].toNat hx) (v':=.bool false) (by rw[hp]));clear hp;go_wp2;go_quiet (go_must(first|exact pV HC.out|exact Calls.quiet_of_same (HC.out _)));go_wp2;go_quiet (fail);go_wp2;go_ret;exact⟨by rw[HG.out,HS.out];rfl,(by repeat(first|exact hgr|refine dN ?_ (grown_drewN _ _ _)|refine dN ?_ (kQ _ _ _ _))),by rw[HG.out,HS.out];exact hR⟩
   ·have HS:=hid (Tk.jJ (p:=p) hlt hp)
    have HC:=hid (oJ (hf.out s[j].toNat hx) (v':=.bool true) (by rw[hp]));clear hp;go_wp2;go_quiet (go_must(first|exact pV HC.out|exact Calls.quiet_of_same (HC.out _)));go_wp2;rw[show(j:Int)+1=((j+1:Nat):Int)from by simp];go_roundg (s.size - (j+1)+1)
    case rel=>exact⟨j+1,rfl,by omega,by omega,Tk.Rd.set hR _,hid (by rw[HG.out,HS.out]),(by repeat(first|exact hgr|refine dN ?_ (grown_drewN _ _ _)|refine dN ?_ (kQ _ _ _ _)))⟩
    case measure=>omega
  ·obtain rfl:j=s.size:=by omega
   have hki:(k:Int)<=(s.size:Int):=by omega
   go_wp2;go_quiet (fail);go_wp2;go_quiet (fail);go_wp2;go_ret;exact⟨by rw[HG.out,Tk.oL (xB _)];rfl,(by repeat(first|exact hgr|refine dN ?_ (grown_drewN _ _ _)|refine dN ?_ (kQ _ _ _ _))),by rw[HG.out,Tk.oL (xB _)];exact hR⟩
theorem L9(s:ByteArray)(hs:s.size<=maxLen)(b k:Nat)(hk:k<=s.size)(w:World)(h:Tk.Rd w b s k) :
  Calls Tryz.prog 171 #[.pointer (some ⟨b,0,none⟩),.func (.func 172) #[] #[]] w λe w'=>e=.returned (.string (s.extract k (Tk.bQ Tk.bC s k)))/\w.grownBy w' (some b)/\Tk.Rd w' b s (Tk.bQ Tk.bC s k) :=
 run_any _ _ (yx Tryz.func172 (by kernel_rfl) (by kernel_rfl)) (hid λx hx w=>(MP x hx w).mono λ_ _ h=>⟨h.1,h.2.symm⟩) s hs b k hk w h
theorem aZ(x:Nat)(hx:x<256)(w:World) :
  Calls Tryz.prog 239 #[.int .u8 x] w λe w'=>e=.returned (.bool (Tk.fE x))/\w=w':=by
 unfold Tk.fE;go_enter Tryz.func239,Tryz.ntmps239;by_cases h1:97<=x
 ·by_cases h2:x<=122
  ·go_wp2
   go_ret;exact⟨by first|rfl|(simp;done)|(simp[*];done)|(simp[*];omega)|(simp;omega)|(simp_all;omega),rfl⟩
  ·have h3:¬x<=90:=by omega
   have h4:65<=x:=by omega
   go_wp2;go_ret;exact⟨by first|rfl|(simp;done)|(simp[*];done)|(simp[*];omega)|(simp;omega)|(simp_all;omega),rfl⟩
 ·by_cases h3:65<=x
  ·by_cases h4:x<=90
   ·go_wp2
    go_ret;exact⟨by first|rfl|(simp;done)|(simp[*];done)|(simp[*];omega)|(simp;omega)|(simp_all;omega),rfl⟩
   ·go_wp2
    go_ret;exact⟨by first|rfl|(simp;done)|(simp[*];done)|(simp[*];omega)|(simp;omega)|(simp_all;omega),rfl⟩
  ·go_wp2
   go_ret;exact⟨by first|rfl|(simp;done)|(simp[*];done)|(simp[*];omega)|(simp;omega)|(simp_all;omega),rfl⟩
theorem bJ(x:Nat)(hx:x<256)(w:World) :
  Calls Tryz.prog 240 #[.int .u8 x] w λe w'=>e=.returned (.bool (Tk.isDigit x))/\w=w':=by
 unfold Tk.isDigit;go_enter Tryz.func240,Tryz.ntmps240;by_cases h1:48<=x
 ·by_cases h2:x<=57
  ·go_wp2
   go_ret;exact⟨by first|rfl|(simp;done)|(simp[*];done)|(simp[*];omega)|(simp;omega)|(simp_all;omega),rfl⟩
  ·go_wp2
   go_ret;exact⟨by first|rfl|(simp;done)|(simp[*];done)|(simp[*];omega)|(simp;omega)|(simp_all;omega),rfl⟩
 ·go_wp2
  go_ret;exact⟨by first|rfl|(simp;done)|(simp[*];done)|(simp[*];omega)|(simp;omega)|(simp_all;omega),rfl⟩
namespace Tk
def words:List ByteArray:=[⟨#[109,111,100,117,108,101]⟩,⟨#[114,101,99,111,114,100]⟩,⟨#[99,104,111,105,99,101]⟩,⟨#[115,101,114,118,105,99,101]⟩,⟨#[115,97,103,97]⟩,⟨#[100,111]⟩,⟨#[97,116]⟩,⟨#[117,110,100,111]⟩,⟨#[103,105,118,101]⟩,⟨#[116,97,107,101]⟩,⟨#[110,111,116,101]⟩,⟨#[110,111,110,101]⟩,⟨#[98,111,111,108]⟩,⟨#[105,110,116]⟩,⟨#[116,101,120,116]⟩,⟨#[108,105,115,116]⟩,⟨#[111,112,116]⟩]
def pJ(s:ByteArray):Bool:=words.any (λx=>s.toList==x.toList)
def KW(w:World):Prop:=0<w.heap.size/\∀ j,j<words.length->w.cell? ⟨0,0+j,none⟩=some (.string (words.getD j ByteArray.empty))
theorem KW.below{w w':World}(h:KW w)(hb:Below w.heap.size w w'):KW w' :=
 ⟨by have:=hb.size;have:=h.1;omega,λj hj=>by rw[hb.cell (p:=⟨0,0+j,none⟩) h.1];exact h.2 j hj⟩
theorem text_eq{a b:ByteArray}(h:a.toList=b.toList):a=b:=by
 rw[ByteArray.toList_eq,ByteArray.toList_eq]at h;have h2:=Array.toList_inj.1 h;cases a
 cases b
 simp only at h2;rw[h2]
theorem GN(s:ByteArray):Lib.containsS (words.take 17) s=pJ s:=by
 rw[Bool.eq_iff_iff,Lib.containsS_iff];unfold pJ;rw[List.any_eq_true];constructor
 ·intro h
  exact⟨s,h,beq_self_eq_true s.toList⟩
 ·rintro⟨x,hx,e⟩
  rw[text_eq (eq_of_beq e)];exact hx
def isName(s:ByteArray):Bool:=decide (1<=s.size)&&decide (s.size<=32)&&fE (byte s 0)&&!pJ s&&decide (bQ bC s 0=s.size)
end Tk
theorem yX(s:ByteArray)(w:World)(hk:Tk.KW w) :
  Calls Tryz.prog 170 #[.string s] w λe w'=>e=.returned (.bool (Tk.pJ s))/\w'=w:=by
 have HC:=hid (Tryz.slices_Contains_string 0 0 17 17 Tk.words s w (by decide) (by decide) hk.2);have HK:=hid (Tk.GN s);go_enter Tryz.func170,Tryz.ntmps170;go_wp2_with fail;refine(HC.out).mono ?_;rintro e w1⟨rfl,rfl⟩;rw[HK.out];go_wp2_with fail;go_ret;exact⟨rfl,rfl⟩
theorem Ti(w:World):Calls Tryz.prog 265 #[.string ⟨#[109,111,100,117,108,101]⟩] w λe w'=>e=.returned (.bool true)/\w'=w:=by
 go_enter Tryz.func265,Tryz.ntmps265;go_wp2;go_ret;exact⟨rfl,rfl⟩
theorem Tf(w:World):Calls Tryz.prog 265 #[.string ⟨#[114,101,99,111,114,100]⟩] w λe w'=>e=.returned (.bool true)/\w'=w:=by
 go_enter Tryz.func265,Tryz.ntmps265;go_wp2;go_ret;exact⟨rfl,rfl⟩
theorem Td(w:World):Calls Tryz.prog 265 #[.string ⟨#[99,104,111,105,99,101]⟩] w λe w'=>e=.returned (.bool true)/\w'=w:=by
 go_enter Tryz.func265,Tryz.ntmps265;go_wp2;go_ret;exact⟨rfl,rfl⟩
theorem Tc(w:World):Calls Tryz.prog 265 #[.string ⟨#[115,101,114,118,105,99,101]⟩] w λe w'=>e=.returned (.bool true)/\w'=w:=by
 go_enter Tryz.func265,Tryz.ntmps265;go_wp2;go_ret;exact⟨rfl,rfl⟩
theorem SY(w:World):Calls Tryz.prog 265 #[.string ⟨#[115,97,103,97]⟩] w λe w'=>e=.returned (.bool true)/\w'=w:=by
 go_enter Tryz.func265,Tryz.ntmps265;go_wp2;go_ret;exact⟨rfl,rfl⟩
theorem SX(w:World):Calls Tryz.prog 265 #[.string ⟨#[100,111]⟩] w λe w'=>e=.returned (.bool true)/\w'=w:=by
 go_enter Tryz.func265,Tryz.ntmps265;go_wp2;go_ret;exact⟨rfl,rfl⟩
theorem SV(w:World):Calls Tryz.prog 265 #[.string ⟨#[97,116]⟩] w λe w'=>e=.returned (.bool true)/\w'=w:=by
 go_enter Tryz.func265,Tryz.ntmps265;go_wp2;go_ret;exact⟨rfl,rfl⟩
theorem SS(w:World):Calls Tryz.prog 265 #[.string ⟨#[117,110,100,111]⟩] w λe w'=>e=.returned (.bool true)/\w'=w:=by
 go_enter Tryz.func265,Tryz.ntmps265;go_wp2;go_ret;exact⟨rfl,rfl⟩
theorem SQ(w:World):Calls Tryz.prog 265 #[.string ⟨#[103,105,118,101]⟩] w λe w'=>e=.returned (.bool true)/\w'=w:=by
 go_enter Tryz.func265,Tryz.ntmps265;go_wp2;go_ret;exact⟨rfl,rfl⟩
theorem SN(w:World):Calls Tryz.prog 265 #[.string ⟨#[116,97,107,101]⟩] w λe w'=>e=.returned (.bool true)/\w'=w:=by
 go_enter Tryz.func265,Tryz.ntmps265;go_wp2;go_ret;exact⟨rfl,rfl⟩
theorem Rn(w:World):Calls Tryz.prog 265 #[.string ⟨#[110,111,116,101]⟩] w λe w'=>e=.returned (.bool true)/\w'=w:=by
 go_enter Tryz.func265,Tryz.ntmps265;go_wp2;go_ret;exact⟨rfl,rfl⟩
theorem Rl(w:World):Calls Tryz.prog 265 #[.string ⟨#[110,111,110,101]⟩] w λe w'=>e=.returned (.bool true)/\w'=w:=by
 go_enter Tryz.func265,Tryz.ntmps265;go_wp2;go_ret;exact⟨rfl,rfl⟩
theorem Rk(w:World):Calls Tryz.prog 265 #[.string ⟨#[98,111,111,108]⟩] w λe w'=>e=.returned (.bool true)/\w'=w:=by
 go_enter Tryz.func265,Tryz.ntmps265;go_wp2;go_ret;exact⟨rfl,rfl⟩
theorem Rj(w:World):Calls Tryz.prog 265 #[.string ⟨#[105,110,116]⟩] w λe w'=>e=.returned (.bool true)/\w'=w:=by
 go_enter Tryz.func265,Tryz.ntmps265;go_wp2;go_ret;exact⟨rfl,rfl⟩
theorem Ri(w:World):Calls Tryz.prog 265 #[.string ⟨#[116,101,120,116]⟩] w λe w'=>e=.returned (.bool true)/\w'=w:=by
 go_enter Tryz.func265,Tryz.ntmps265;go_wp2;go_ret;exact⟨rfl,rfl⟩
theorem Rh(w:World):Calls Tryz.prog 265 #[.string ⟨#[108,105,115,116]⟩] w λe w'=>e=.returned (.bool true)/\w'=w:=by
 go_enter Tryz.func265,Tryz.ntmps265;go_wp2;go_ret;exact⟨rfl,rfl⟩
theorem Rf(w:World):Calls Tryz.prog 265 #[.string ⟨#[111,112,116]⟩] w λe w'=>e=.returned (.bool true)/\w'=w:=by
 go_enter Tryz.func265,Tryz.ntmps265;go_wp2;go_ret;exact⟨rfl,rfl⟩
theorem QZ(s:ByteArray)(w:World)(h0:(s.toList==[109,111,100,117,108,101])=false)(h1:(s.toList==[114,101,99,111,114,100])=false)(h2:(s.toList==[99,104,111,105,99,101])=false)(h3:(s.toList==[115,101,114,118,105,99,101])=false)(h4:(s.toList==[115,97,103,97])=false)(h5:(s.toList==[100,111])=false)(h6:(s.toList==[97,116])=false)(h7:(s.toList==[117,110,100,111])=false)(h8:(s.toList==[103,105,118,101])=false)(h9:(s.toList==[116,97,107,101])=false)(h10:(s.toList==[110,111,116,101])=false)(h11:(s.toList==[110,111,110,101])=false)(h12:(s.toList==[98,111,111,108])=false)(h13:(s.toList==[105,110,116])=false)(h14:(s.toList==[116,101,120,116])=false)(h15:(s.toList==[108,105,115,116])=false)(h16:(s.toList==[111,112,116])=false) :
  Calls Tryz.prog 265 #[.string s] w λe w'=>e=.returned (.bool false)/\w'=w:=by
 go_enter Tryz.func265,Tryz.ntmps265;go_wp2;go_ret;exact⟨rfl,rfl⟩
theorem wM(s:ByteArray)(w:World) :
  Calls Tryz.prog 265 #[.string s] w λe w'=>e=.returned (.bool (Tk.pJ s))/\w'=w:=by
 cases hk:Tk.pJ s
 ·unfold Tk.pJ Tk.words at hk
  simp only[List.any_cons,List.any_nil,Bool.or_false,Bool.or_eq_false_iff,ByteArray.toList_mk]at hk;obtain⟨h0,h1,h2,h3,h4,h5,h6,h7,h8,h9,h10,h11,h12,h13,h14,h15,h16⟩:=hk;exact QZ s w h0 h1 h2 h3 h4 h5 h6 h7 h8 h9 h10 h11 h12 h13 h14 h15 h16
 ·unfold Tk.pJ Tk.words at hk
  simp only[List.any_cons,List.any_nil,Bool.or_false,Bool.or_eq_true,beq_iff_eq]at hk;rcases hk with h|h|h|h|h|h|h|h|h|h|h|h|h|h|h|h|h
  ·rw[Tk.text_eq h];exact Ti w
  ·rw[Tk.text_eq h];exact Tf w
  ·rw[Tk.text_eq h];exact Td w
  ·rw[Tk.text_eq h];exact Tc w
  ·rw[Tk.text_eq h];exact SY w
  ·rw[Tk.text_eq h];exact SX w
  ·rw[Tk.text_eq h];exact SV w
  ·rw[Tk.text_eq h];exact SS w
  ·rw[Tk.text_eq h];exact SQ w
  ·rw[Tk.text_eq h];exact SN w
  ·rw[Tk.text_eq h];exact Rn w
  ·rw[Tk.text_eq h];exact Rl w
  ·rw[Tk.text_eq h];exact Rk w
  ·rw[Tk.text_eq h];exact Rj w
  ·rw[Tk.text_eq h];exact Ri w
  ·rw[Tk.text_eq h];exact Rh w
  ·rw[Tk.text_eq h];exact Rf w
namespace Tk
theorem KL(s:ByteArray)(E:Nat)(hE:E<=s.size):((s.extract 0 E).toList==s.toList)=decide (E=s.size):=by
 by_cases h:E=s.size
 ·subst h
  rw[decide_eq_true rfl];simp
 ·rw[decide_eq_false h]
  have:(s.extract 0 E).toList≠s.toList:=by
   intro e;have:=congrArg ByteArray.size (text_eq e);simp at this;omega
  simpa using this
theorem oN{s:ByteArray}(h:s.size<1∨32<s.size):isName s=false:=by
 unfold isName;rcases h with h|h
 ·rw[decide_eq_false (by omega)];rfl
 ·rw[decide_eq_false (p:=s.size<=32) (by omega)];simp
end Tk
theorem name_any(s:ByteArray)(w:World)(hk:Tk.KW w) :
  Calls Tryz.prog 105 #[.string s] w λe w'=>e=.returned (.bool (Tk.isName s))/\Below w.heap.size w w':=by
 by_cases h1:s.size<1
 ·have HN:=hid (Tk.oN (.inl h1))
  rw[HN.out];go_enter Tryz.func105,Tryz.ntmps105;go_wp2_with fail;go_ret;exact⟨rfl,Below.refl _ _⟩
 ·by_cases h2:32<s.size
  ·have HN:=hid (Tk.oN (.inr h2))
   rw[HN.out];go_enter Tryz.func105,Tryz.ntmps105;go_wp2_with fail;go_ret;exact⟨rfl,Below.refl _ _⟩
  ·have h0:0<s.size:=by omega
   have hx:s[0].toNat<256:=s[0].toNat_lt;have hb0:=Tk.nI h0;have h0i:(0:Int)<(s.size:Int):=by omega
   cases hL:Tk.fE s[0].toNat
   ·have HN:Hid (Tk.isName s=false):=hid (by unfold Tk.isName;rw[hb0,hL];simp)
    have HL:=hid hL;clear hL hb0;rw[HN.out];go_enter Tryz.func105,Tryz.ntmps105;go_wp2_with fail;refine(nC _ hx _).mono ?_;rintro e w1⟨rfl,rfl⟩;rw[HL.out];go_wp2_with fail;go_ret;exact⟨rfl,Below.refl _ _⟩
   ·cases hK:Tk.pJ s
    ·have HN:Hid (Tk.isName s=decide (Tk.bQ Tk.bC s 0=s.size)):=hid (by unfold Tk.isName;rw[hb0,hL,hK,decide_eq_true (by omega),decide_eq_true (p:=s.size<=32) (by omega)];simp)
     have HL:=hid hL;have HK:=hid hK;have HW:=hid (Tk.KL s (Tk.bQ Tk.bC s 0) (Tk.oC (by omega)));clear hL hb0 hK;rw[HN.out];go_enter Tryz.func105,Tryz.ntmps105;go_wp2_with fail;refine(nC _ hx _).mono ?_;rintro e w1⟨rfl,rfl⟩;rw[HL.out];go_wp2_with fail;refine(yX s _ hk).mono ?_;rintro e w1⟨rfl,rfl⟩;rw[HK.out];go_wp2_with fail;refine(L9 s (by unfold maxLen;omega) _ 0 (by omega) _ (heap_alloc_new _ _)).mono ?_;rintro e w2⟨rfl,hg,hR⟩;go_wp2_with fail;go_ret;refine⟨by first|rfl|(rw[HW.out];rfl),?_⟩;exact((Below.refl _ _).alloc (xB _) _).trans (below_of_grown hg (xB _) (.inr (by simp)))
    ·have HN:Hid (Tk.isName s=false):=hid (by unfold Tk.isName;rw[hK];simp)
     have HL:=hid hL;have HK:=hid hK;clear hL hb0 hK;rw[HN.out];go_enter Tryz.func105,Tryz.ntmps105;go_wp2_with fail;refine(nC _ hx _).mono ?_;rintro e w1⟨rfl,rfl⟩;rw[HL.out];go_wp2_with fail;refine(yX s _ hk).mono ?_;rintro e w1⟨rfl,rfl⟩;rw[HK.out];go_wp2_with fail;go_ret;exact⟨rfl,Below.refl _ _⟩
theorem CS(s:ByteArray)(w:World) :
  Calls Tryz.prog 241 #[.string s] w λe w'=>e=.returned (.bool (Tk.isName s))/\w'=w:=by
 by_cases h1:s.size<1
 ·have HN:=hid (Tk.oN (.inl h1))
  have t0:((s.size:Int)==0)=true:=beq_iff_eq.2 (by omega);rw[HN.out];go_enter Tryz.func241,Tryz.ntmps241;go_wp2_with fail;go_ret;exact⟨rfl,rfl⟩
 ·have t0:((s.size:Int)==0)=false:=beq_eq_false_iff_ne.2 (by omega)
  by_cases h2:32<s.size
  ·have HN:=hid (Tk.oN (.inr h2))
   rw[HN.out];go_enter Tryz.func241,Tryz.ntmps241;go_wp2_with fail;go_ret;exact⟨rfl,rfl⟩
  ·have h0:0<s.size:=by omega
   have hx:s[0].toNat<256:=s[0].toNat_lt;have hb0:=Tk.nI h0;have h0i:(0:Int)<(s.size:Int):=by omega
   cases hL:Tk.fE s[0].toNat
   ·have HN:Hid (Tk.isName s=false):=hid (by unfold Tk.isName;rw[hb0,hL];simp)
    have HL:=hid hL;clear hL hb0;rw[HN.out];go_enter Tryz.func241,Tryz.ntmps241;go_wp2_with fail;refine(aZ _ hx _).mono ?_;rintro e w1⟨rfl,rfl⟩;rw[HL.out];go_wp2_with fail;go_ret;exact⟨rfl,rfl⟩
   ·cases hK:Tk.pJ s
    ·have HN:Hid (Tk.isName s=decide (Tk.bQ Tk.bC s 1=s.size)):=hid (by
      unfold Tk.isName;rw[hb0,hL,hK,decide_eq_true (by omega),decide_eq_true (p:=s.size<=32) (by omega),Tk.jJ (p:=Tk.bC) h0 (by unfold Tk.bC;rw[hL];rfl)];simp)
     have HL:=hid hL;have HK:=hid hK;clear hL hb0 hK;rw[HN.out];clear HN;go_enter Tryz.func241,Tryz.ntmps241;go_wp2_with fail;refine(aZ _ hx _).mono ?_;rintro e w1⟨rfl,rfl⟩;rw[HL.out];go_wp2_with fail;refine(wM s _).mono ?_;rintro e w1⟨rfl,rfl⟩;rw[HK.out];go_wp2_with fail;go_loop [3] (λi=>∃ m:Nat,1<=m/\m<=s.size/\i=.int .i64 m/\Hid (Tk.bQ Tk.bC s 1=Tk.bQ Tk.bC s m)) (λi=>s.size - (intOf i).toNat)
     case atStart=>exact⟨1,by omega,by omega,rfl,hid rfl⟩
     case round =>
      obtain⟨m,hm1,hm,rfl,HM⟩:=hrel;by_cases hml:m<s.size
      ·have hx2:s[m].toNat<256:=s[m].toNat_lt
       have hmi:(m:Int)<(s.size:Int):=by omega
       cases h1:Tk.fE s[m].toNat
       ·have H1:=hid h1
        cases h2:Tk.isDigit s[m].toNat
        ·have H2:=hid h2
         by_cases h3:s[m].toNat=95
         ·have HE:=hid (Tk.jJ (p:=Tk.bC) hml (by unfold Tk.bC;rw[h1,h2,h3];rfl))
          have t1:((s[m].toNat:Int)==95)=true:=by simp;omega
          have t2:((s[m].toNat:Int) != 95)=false:=by simp;omega
          clear h1 h2 h3;go_wp2_with fail;refine(aZ _ hx2 _).mono ?_;rintro e w1⟨rfl,rfl⟩;rw[H1.out];go_wp2_with fail;refine(bJ _ hx2 _).mono ?_;rintro e w1⟨rfl,rfl⟩;rw[H2.out];go_wp2_with fail;go_round
          case rel=>exact⟨m+1,by omega,by omega,by go_num,hid (by rw[HM.out,HE.out])⟩
          case measure=>simp[intOf];omega
         ·have HE:=hid (Tk.qg (p:=Tk.bC) hml (by unfold Tk.bC;rw[h1,h2];simp[h3]))
          have t1:((s[m].toNat:Int)==95)=false:=by simp;omega
          have t2:((s[m].toNat:Int) != 95)=true:=by simp;omega
          clear h1 h2 h3;go_wp2_with fail;refine(aZ _ hx2 _).mono ?_;rintro e w1⟨rfl,rfl⟩;rw[H1.out];go_wp2_with fail;refine(bJ _ hx2 _).mono ?_;rintro e w1⟨rfl,rfl⟩;rw[H2.out];go_wp2_with fail;go_ret;exact⟨by rw[HM.out,HE.out,decide_eq_false (p:=m=s.size) (by omega)];rfl,rfl⟩
        ·have H2:=hid h2
         have HE:=hid (Tk.jJ (p:=Tk.bC) hml (by unfold Tk.bC;rw[h1,h2];rfl));clear h1 h2;go_wp2_with fail;refine(aZ _ hx2 _).mono ?_;rintro e w1⟨rfl,rfl⟩;rw[H1.out];go_wp2_with fail;refine(bJ _ hx2 _).mono ?_;rintro e w1⟨rfl,rfl⟩;rw[H2.out];go_wp2_with fail;go_round
         case rel=>exact⟨m+1,by omega,by omega,by go_num,hid (by rw[HM.out,HE.out])⟩
         case measure=>simp[intOf];omega
       ·have H1:=hid h1
        have HE:=hid (Tk.jJ (p:=Tk.bC) hml (by unfold Tk.bC;rw[h1];rfl));clear h1;go_wp2_with fail;refine(aZ _ hx2 _).mono ?_;rintro e w1⟨rfl,rfl⟩;rw[H1.out];go_wp2_with fail;go_round
        case rel=>exact⟨m+1,by omega,by omega,by go_num,hid (by rw[HM.out,HE.out])⟩
        case measure=>simp[intOf];omega
      ·obtain rfl:m=s.size:=by omega
       clear hml;go_wp2_with fail;go_ret;exact⟨by rw[HM.out,Tk.oL (xB _),decide_eq_true (p:=s.size=s.size) rfl];rfl,rfl⟩
    ·have HN:Hid (Tk.isName s=false):=hid (by unfold Tk.isName;rw[hK];simp)
     have HL:=hid hL;have HK:=hid hK;clear hL hb0 hK;rw[HN.out];go_enter Tryz.func241,Tryz.ntmps241;go_wp2_with fail;refine(aZ _ hx _).mono ?_;rintro e w1⟨rfl,rfl⟩;rw[HL.out];go_wp2_with fail;refine(wM s _).mono ?_;rintro e w1⟨rfl,rfl⟩;rw[HK.out];go_wp2_with fail;go_ret;exact⟨rfl,rfl⟩
end
