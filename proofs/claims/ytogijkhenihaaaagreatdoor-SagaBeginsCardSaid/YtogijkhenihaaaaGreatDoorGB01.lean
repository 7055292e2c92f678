import Derived.Test.YtogijkhenihaaaaGreatDoorGB00
set_option linter.all false
set_option maxRecDepth 100000
set_option maxHeartbeats 0
namespace Go.Proofs.YtogijkhenihaaaaGreatDoor
open Lib (hid)
open Go.RowKit
section
open Go.BigFrame
def Bl(W w':World):Prop:=Below W.heap.size W w'
theorem Bl.refl(W:World):Bl W W:=Below.refl _ _
theorem Bl.trans{a b c:World}(h:Bl a b)(k:Below b.heap.size b c):Bl a c:=Below.trans h (k.mono h.size)
theorem Bl.drewN{a b:World}(h:Bl a b)(n:Nat):Bl a (b.drewN n):=below_drewN h n
theorem fG{P:Program}{f:FuncId}{args:Array Value}{W w':World}{v:Value}(hb:Bl W w')
  (h:Calls P f args w' λe w''=>e=.returned v/\Below w'.heap.size w' w''):Calls P f args w' λe w''=>e=.returned v/\Bl W w'' :=
 h.mono λ_ _ ⟨he,hk⟩=>⟨he,hb.trans hk⟩
theorem dI{P:Program}{id:Nat}{Q:Exit->Act->World->Prop}{a:Act}{w:World}{l:List Oper}(W:World)(hm:P.follows .mixedOrders=true)(hB:Region.lexB .any l.toArray=true)
  (hC:Bl W w) (h:wpQuiet P l.toArray (Bl W) (λa'=>∀ w',Bl W w'->Q .normal a' w') l a):(Code.region id l.toArray true).wp P Q a w :=
 wp_region_quiet (C:=Bl W) hm hB (hC.drewN 1) (by simpa using h)
end
theorem flat_get{α:Type}{f:α->List Value}{m:Nat}(hf:∀ x,(f x).length=m):∀(ls:List α)(j:Nat)(hj:j<ls.length)(i:Nat),i<m->(ls.flatMap f)[j * m+i]?=(f ls[j])[i]?
 |[],j,hj,_,_=>by simp at hj
 |t::ls,0,_,i,hi=>by
  rw[yJ,Nat.zero_mul,Nat.zero_add,List.getElem?_append_left (by rw[hf];exact hi)];rfl
 |t::ls,j+1,hj,i,hi=>by
  rw[yJ,List.getElem?_append_right (by rw[hf,Nat.succ_mul];omega),hf,show(j+1) * m+i - m=j * m+i from by rw[Nat.succ_mul];omega];exact flat_get hf ls j (by simpa using hj) i hi
def Lie(w:World)(A:Option Addr)(vs:List Value):Prop:=0<vs.length->∃ g off,A=some ⟨g,off,none⟩/\∀ j u,vs[j]?=some u->w.cell? ⟨g,off+j,none⟩=some u
namespace Lie
section
variable {w w' : World} {A : Option Addr} {vs : List Value}
theorem nil(w:World)(A:Option Addr):Lie w A []:=λh=>absurd h (by simp)
theorem keep(h:Lie w A vs)(hk:∀ p:Addr,p.block<w.heap.size->w'.cell? p=w.cell? p):Lie w' A vs:=λh0=>by
 obtain⟨g,off,e,hc⟩:=h h0;exact⟨g,off,e,λj u hu=>(hk _ (xH w _ (hc j u hu))).trans (hc j u hu)⟩
theorem below(h:Lie w A vs)(hb:Below w.heap.size w w'):Lie w' A vs:=h.keep λ_ hp=>hb.cell hp
theorem Au{base:Nat}{e:TypeId}{size n:Nat}{v:Value}(h:w.ownsRow base e size v n vs):∃ A c,v=.slice A n c/\Lie w A vs/\n<=9223372036854775807/\n<=c/\(A=none->n=0/\c=0)/\(∀ ad,A=some ad->base<=ad.block/\ad.block<w.heap.size/\ad.off=0):=by
 rcases h.2 with⟨rfl,h0⟩|⟨g,cap,cur,rfl,hbs,hgg,hn,hc,_⟩
 ·exact⟨none,0,by rw[h0],λe=>by have:=h.1;simp[h0]at this;simp[this]at e,by omega,by omega,λ_=>⟨h0,rfl⟩,λ_ e=>by cases e⟩
 ·refine⟨some ⟨g,0,none⟩,cap,rfl,λ_=>⟨g,0,rfl,λj u hu=>?_⟩,by unfold maxLen at hc;omega,hn,λe=>by(cases e),λad e=>by injection e with e;subst e;exact⟨hbs,(Array.getElem?_eq_some_iff.1 hgg).1,rfl⟩⟩
  have:=h.cells (g:=g) rfl j u hu;have hadd:(⟨g,0,none⟩:Addr).add j=⟨g,0+j,none⟩:=by unfold Addr.add;split<;>simp_all
  rw[hadd]at this;exact this
end
end Lie
def Bk(w:World)(g:Nat)(t:TypeId)(cs:Array Value):Prop:=w.heap[g]?=some (.cells cs t (0,0))
section
variable {w w' : World} {g : Nat} {t : TypeId} {cs : Array Value}
theorem Bk.lt(h:Bk w g t cs):g<w.heap.size:=by
 rcases Nat.lt_or_ge g w.heap.size with hlt|hge
 ·exact hlt
 ·unfold Bk at h;rw[Array.getElem?_eq_none hge]at h;cases h
theorem Bk.cell(h:Bk w g t cs)(i:Nat):w.cell? ⟨g,i,none⟩=cs[i]?:=cell_of_row w g i cs t (0,0) h
theorem Bk.frozen(h:Bk w g t cs)(i:Nat):w.frozen? ⟨g,i,none⟩=false:=by
 unfold Bk at h;simp[World.frozen?,h]
theorem Bk.new(w:World)(t:TypeId)(cs:Array Value):Bk (w.alloc (.cells cs t)) w.heap.size t cs:=heap_alloc_new w _
theorem Bk.drew(h:Bk w g t cs):Bk w.drew g t cs:=h
theorem Bk.alloc(h:Bk w g t cs)(o:Obj):Bk (w.alloc o) g t cs:=(Below.heap_alloc w o g h.lt).trans h
theorem Bk.aA(h:Bk w g t cs)(i:Nat)(u:Value):Bk (w.setCell ⟨g,i,none⟩ u) g t (cs.setIfInBounds i u):=by
 unfold Bk at h ⊢;simp[World.setCell,Array.getElem?_modify,h]
theorem Bk.far(h:Bk w g t cs){p:Addr}(hp:g≠p.block)(u:Value):Bk (w.setCell p u) g t cs:=(Below.heap_setCell w p u g hp).trans h
theorem Bk.below{B:Nat}(h:Bk w g t cs)(hb:Below B w w')(hg:g<B):Bk w' g t cs:=(hb.block g hg).trans h
theorem Bk.grown{row:Option Nat}(h:Bk w g t cs)(hb:w.grownBy w' row)(hg:some g≠row):Bk w' g t cs:=(hb.block g h.lt hg).trans h
theorem nG(w:World)(r:Option Nat):w.grownBy w r:=⟨rfl,rfl,rfl,xB _,λ_ _ _=>rfl⟩
theorem vO{a b c:World}{r:Option Nat}(h:a.grownBy b r)(k:b.grownBy c r):a.grownBy c r :=
 ⟨k.os.trans h.os,k.tape.trans h.tape,k.output.trans h.output,xM h.size k.size,λi hi hn=>(k.block i (Nat.lt_of_lt_of_le hi h.size) hn).trans (h.block i hi hn)⟩
theorem OU{a w:World}{row:Option Nat}(h:a.grownBy w row)(n:Nat):a.grownBy (w.drewN n) row:=⟨h.os,h.tape,h.output,h.size,h.block⟩
theorem oP{a w:World}{g:Nat}(h:a.grownBy w (some g)){p:Addr}(hp:p.block=g∨a.heap.size<=p.block)(u:Value):a.grownBy (w.setCell p u) (some g) :=
 ⟨h.os,h.tape,h.output,by simpa[World.setCell]using h.size,λi hi hne=>(Below.heap_setCell w p u i (by
  rintro rfl;rcases hp with hp|hp
  ·exact hne (by rw[hp])
  ·omega)).trans (h.block i hi hne)⟩
theorem pO{a w:World}(h:Below a.heap.size a w)(row:Option Nat):a.grownBy w row:=⟨h.os,h.tape,h.output,h.size,λi hi _=>h.block i hi⟩
theorem jr{B:Nat}{a w w':World}{g:Nat}(h:Below B a w)(hg:w.grownBy w' (some g))(hB:B<=g)(hw:B<=w.heap.size):Below B a w' :=
 h.trans ⟨hg.os,hg.tape,hg.output,hg.size,λi hi=>hg.block i (by omega) (by intro e;injection e with e;omega)⟩
end
theorem Tj{fn:Func}{p:Tmp}{ty:TypeId}(h:fn.results=#[.cell p ty])(tmps:Array Value)(P:Program)(w:World) :
  (results fn tmps).run P w=((asAddr (tmps.getD p undef)).run P w).andThen λa w₁=>(loadVar ty a).run P w₁:=by
 simp only[results,h];simp[Sem.run_bind,Result.andThen]
theorem rG{fn:Func}{p u v:Tmp}{ty:TypeId}(h:fn.results=#[.cell p ty,.tmp u,.tmp v])(tmps:Array Value)(P:Program)(w:World) :
  (results fn tmps).run P w=((asAddr (tmps.getD p undef)).run P w).andThen λa w₁=>((loadVar ty a).run P w₁).andThen λx w₂=>.ok (.tuple #[x,tmps.getD u undef,tmps.getD v undef]) w₂:=by
 simp only[results,h];simp[Sem.run_bind,Result.andThen]
theorem Bk.k1{w:World}{g:Nat}{t:TypeId}{x0:Value}(h:Bk w g t #[x0]):(w.cell? ⟨g,0,none⟩=some x0)/\w.frozen? ⟨g,0,none⟩=false :=
 ⟨h.cell 0,h.frozen 0⟩
theorem Bk.k2{w:World}{g:Nat}{t:TypeId}{x0 x1:Value}(h:Bk w g t #[x0,x1]):(w.cell? ⟨g,0,none⟩=some x0/\w.cell? ⟨g,1,none⟩=some x1)/\w.frozen? ⟨g,0,none⟩=false/\w.frozen? ⟨g,1,none⟩=false :=
 ⟨⟨h.cell 0,h.cell 1⟩,h.frozen 0,h.frozen 1⟩
theorem Bk.k3{w:World}{g:Nat}{t:TypeId}{x0 x1 x2:Value}(h:Bk w g t #[x0,x1,x2]):(w.cell? ⟨g,0,none⟩=some x0/\w.cell? ⟨g,1,none⟩=some x1/\w.cell? ⟨g,2,none⟩=some x2)/\w.frozen? ⟨g,0,none⟩=false/\w.frozen? ⟨g,1,none⟩=false/\w.frozen? ⟨g,2,none⟩=false :=
 ⟨⟨h.cell 0,h.cell 1,h.cell 2⟩,h.frozen 0,h.frozen 1,h.frozen 2⟩
theorem Bk.k4{w:World}{g:Nat}{t:TypeId}{x0 x1 x2 x3:Value}(h:Bk w g t #[x0,x1,x2,x3]):(w.cell? ⟨g,0,none⟩=some x0/\w.cell? ⟨g,1,none⟩=some x1/\w.cell? ⟨g,2,none⟩=some x2/\w.cell? ⟨g,3,none⟩=some x3)/\w.frozen? ⟨g,0,none⟩=false/\w.frozen? ⟨g,1,none⟩=false/\w.frozen? ⟨g,2,none⟩=false/\w.frozen? ⟨g,3,none⟩=false :=
 ⟨⟨h.cell 0,h.cell 1,h.cell 2,h.cell 3⟩,h.frozen 0,h.frozen 1,h.frozen 2,h.frozen 3⟩
theorem Bk.k5{w:World}{g:Nat}{t:TypeId}{x0 x1 x2 x3 x4:Value}(h:Bk w g t #[x0,x1,x2,x3,x4]):(w.cell? ⟨g,0,none⟩=some x0/\w.cell? ⟨g,1,none⟩=some x1/\w.cell? ⟨g,2,none⟩=some x2/\w.cell? ⟨g,3,none⟩=some x3/\w.cell? ⟨g,4,none⟩=some x4)/\w.frozen? ⟨g,0,none⟩=false/\w.frozen? ⟨g,1,none⟩=false/\w.frozen? ⟨g,2,none⟩=false/\w.frozen? ⟨g,3,none⟩=false/\w.frozen? ⟨g,4,none⟩=false :=
 ⟨⟨h.cell 0,h.cell 1,h.cell 2,h.cell 3,h.cell 4⟩,h.frozen 0,h.frozen 1,h.frozen 2,h.frozen 3,h.frozen 4⟩
theorem Bk.k8{w:World}{g:Nat}{t:TypeId}{x0 x1 x2 x3 x4 x5 x6 x7:Value}(h:Bk w g t #[x0,x1,x2,x3,x4,x5,x6,x7]):(w.cell? ⟨g,0,none⟩=some x0/\w.cell? ⟨g,1,none⟩=some x1/\w.cell? ⟨g,2,none⟩=some x2/\w.cell? ⟨g,3,none⟩=some x3/\w.cell? ⟨g,4,none⟩=some x4/\w.cell? ⟨g,5,none⟩=some x5/\w.cell? ⟨g,6,none⟩=some x6/\w.cell? ⟨g,7,none⟩=some x7)/\w.frozen? ⟨g,0,none⟩=false/\w.frozen? ⟨g,1,none⟩=false/\w.frozen? ⟨g,2,none⟩=false/\w.frozen? ⟨g,3,none⟩=false/\w.frozen? ⟨g,4,none⟩=false/\w.frozen? ⟨g,5,none⟩=false/\w.frozen? ⟨g,6,none⟩=false/\w.frozen? ⟨g,7,none⟩=false :=
 ⟨⟨h.cell 0,h.cell 1,h.cell 2,h.cell 3,h.cell 4,h.cell 5,h.cell 6,h.cell 7⟩,h.frozen 0,h.frozen 1,h.frozen 2,h.frozen 3,h.frozen 4,h.frozen 5,h.frozen 6,h.frozen 7⟩
theorem kG{P:Program}{ops:Array Oper}{rest:List Oper}{o:Oper}{a:Act}{Q:Exit->Act->World->Prop}{w:World}(hgd:Region.wanted o (yielded ops a.tmps)=true)(s x:Operand)(t:TypeId)
  (ho:o.op=.call { callee:=.builtin .append,args:=#[s,x],argTypes:=#[t,t] })
  (base:Nat) (e:TypeId) (z:Value) (size bytes:Nat) (ht:P.underlying t=some (.slice e)) (hi:(P.info? e).map (λi=>(i.zero,i.size,i.bytes))=some (some z,size,bytes)) (hzs:z.cells.size=size) (hsz:0<size)
  (v:Value) (n:Nat) (xs:List Value) (hs:a.eval s=v) (hown:w.ownsRow base e size v n xs)
  (A:Option Addr) (m c:Nat) (news:List Value) (hx:a.eval x=.slice A m c) (hA:A=none->m=0/\c=0) (hl:news.length=m * size)
  (hnews:∀ ad,A=some ad->∀ j u,news[j]?=some u->w.cell? (ad.add j)=some u) (h1:∀ u∈news,u.oneCell'=true)
  (h63:n+m<=maxLen) (hbytes:(n+m) * bytes<=140737488355328) (hbase:base<=w.heap.size)
  (h:∀ v' w',w'.ownsRow base e size v' (n+m) (xs++news)->w.grownBy w' v.ownBlock->Below base w w'->wpList P ops Q rest (a.put o.dst v') w'):wpList P ops Q (o::rest) a w:=by
 obtain⟨i,hi0,hz0,hz1,hz2⟩:=info_parts hi;refine wpList_step λK hK=>?_
 rw[if_pos hgd];cases A with
 |none =>
  obtain⟨rfl,rfl⟩:=hA rfl;have hn0:news=[]:=by simpa using hl
  subst hn0;have hrun:=run_append_owned_none (P:=P) (w:=w) base t o.type e i size ht hi0 v n xs hown;unfold Oper.wp;simp[execOp,ho,resolve,invoke,builtin,hs,hx,hrun,Result.andThen];exact hK _ _ (h v w (by simpa using hown) ⟨rfl,rfl,rfl,xB _,λ_ _ _=>rfl⟩ (Below.refl _ _))
 |some ad =>
  exact wp_append_own w s x t ho base e i z size bytes ht hi0 hz0 hz1 hz2 hzs hsz v n xs hs hown ad m c news hx hl (hnews ad rfl) h1 h63 hbytes hbase λv' w' h2 h3 _=>hK _ _ (h v' w' h2 h3 ((Below.refl base w).grown h3 hbase (λk hk=>(hown.lt k hk).1)))
theorem Ib{w:World}{base:Nat}{e:TypeId}{size:Nat}{n:Nat}{xs:List Value}{g cap:Nat}(h:w.ownsRow base e size (.slice (some ⟨g,0,none⟩) n cap) n xs)(j:Nat)(hj:j<n * size)(u:Value) :
  (w.setCell ⟨g,j,none⟩ u).ownsRow base e size (.slice (some ⟨g,0,none⟩) n cap) n (xs.set j u)/\w.frozen? ⟨g,j,none⟩=false/\(∃ u0,w.cell? ⟨g,j,none⟩=some u0)/\base<=g:=by
 obtain⟨h1,h2⟩:=h;rcases h2 with⟨hv,_⟩|⟨g',cap',cur,hv,hb,hg,hn,hc,hcs,ht⟩
 ·cases hv
 ·injection hv with hv1 hv2 hv3
  injection hv1 with hv1
  injection hv1 with hv1
  subst hv1 hv3;have hlt:g<w.heap.size:=(Array.getElem?_eq_some_iff.1 hg).1;have hjc:j<cur.size:=by rw[hcs];exact Nat.lt_of_lt_of_le hj (Nat.mul_le_mul_right _ hn)
  refine⟨⟨by rw[List.length_set];exact h1,.inr ⟨g,cap,cur.setIfInBounds j u,rfl,hb,?_,hn,hc,by simpa using hcs,?_⟩⟩,frozen_of_row w g j _ _ hg,⟨cur[j],by rw[cell_of_row w g j _ _ _ hg];exact yD hjc⟩,hb⟩
  ·have hg':w.heap[g]=.cells cur e (0,0):=by simpa[yD hlt]using hg
   show(w.heap.modify g _)[g]?=_
   rw[yD (by simpa using hlt),Array.getElem_modify_self,hg'];rfl
  ·rw[Array.toList_setIfInBounds,List.take_set,ht]
def Kp(base:Nat)(T:List TypeId)(w w':World):Prop:=∀(g:Nat)(cs:Array Value)(t:TypeId),base<=g->t∈T->w.heap[g]?=some (.cells cs t (0,0))->w'.heap[g]?=some (.cells cs t (0,0))
theorem Kp.trans{base:Nat}{T:List TypeId}{a b c:World}(h:Kp base T a b)(k:Kp base T b c):Kp base T a c:=λg cs t hb ht hg=>k g cs t hb ht (h g cs t hb ht hg)
def mW(w:World)(B:Option Nat)(t:TypeId)(size:Nat)(v:Value)(n:Nat)(xs:List Value):Prop :=
 match B with
 |none=>xs.length=n * size/\∃ A c,v=.slice A n c/\n<=c/\c<=9223372036854775807/\(A=none->n=0/\c=0)/\Lie w A xs
 |some base=>w.ownsRow base t size v n xs
section
variable {w w' : World} {B : Option Nat} {t : TypeId} {size n : Nat} {v : Value} {xs : List Value}
theorem mW.slice(h:mW w B t size v n xs):∃ A c,v=.slice A n c/\n<=c/\c<=9223372036854775807/\(A=none->n=0/\c=0)/\Lie w A xs:=by
 cases B with
 |none=>exact h.2
 |some base =>
  obtain⟨A,c,rfl,hl,_,hnc,hA,_⟩:=Lie.Au (show w.ownsRow base t size v n xs from h);refine⟨A,c,rfl,hnc,?_,hA,hl⟩;rcases(show w.ownsRow base t size _ n xs from h).2 with⟨e,_⟩|⟨g,cap,cur,e,_,_,_,hc,_⟩
  ·injection e with _ _ e;omega
  ·injection e with _ _ e;unfold maxLen at hc;omega
theorem mW.len(h:mW w B t size v n xs):xs.length=n * size:=by
 cases B with
 |none=>exact h.1
 |some base=>exact World.ownsRow.lt (show w.ownsRow base t size v n xs from h)|> λ_=>(show w.ownsRow base t size v n xs from h).1
theorem mW.weak{B':Option Nat}(h:mW w B t size v n xs)(hB:∀ b',B'=some b'->∃ b,B=some b/\b'<=b):mW w B' t size v n xs:=by
 cases B' with
 |none=>exact⟨h.len,h.slice⟩
 |some b' =>
  obtain⟨b,rfl,hb⟩:=hB b' rfl;refine⟨(show w.ownsRow b t size v n xs from h).1,?_⟩;rcases(show w.ownsRow b t size v n xs from h).2 with hn|⟨g,cap,cur,rfl,hbs,rest⟩
  ·exact .inl hn
  ·exact .inr ⟨g,cap,cur,rfl,by omega,rest⟩
theorem mW.below(h:mW w B t size v n xs)(hb:Below w.heap.size w w'):mW w' B t size v n xs:=by
 cases B with
 |none =>
  obtain⟨h1,A,c,e,h2,h3,h4,h5⟩:=h;exact⟨h1,A,c,e,h2,h3,h4,h5.below hb⟩
 |some base =>
  refine⟨(show w.ownsRow base t size v n xs from h).1,?_⟩;rcases(show w.ownsRow base t size v n xs from h).2 with hn|⟨g,cap,cur,rfl,hbs,hg,rest⟩
  ·exact .inl hn
  ·exact .inr ⟨g,cap,cur,rfl,hbs,(hb.block g (Array.getElem?_eq_some_iff.1 hg).1).trans hg,rest⟩
theorem mW.kp{base b:Nat}{T:List TypeId}(h:mW w (some b) t size v n xs)(hk:Kp base T w w')(hb:base<=b)(ht:t∈T):mW w' (some b) t size v n xs:=by
 refine⟨(show w.ownsRow b t size v n xs from h).1,?_⟩;rcases(show w.ownsRow b t size v n xs from h).2 with hn|⟨g,cap,cur,rfl,hbs,hg,rest⟩
 ·exact .inl hn
 ·exact .inr ⟨g,cap,cur,rfl,hbs,hk g cur t (by omega) ht hg,rest⟩
end
theorem lM{size:Nat}{css:List (List Value)}(h:∀ cs∈css,cs.length=size):css.flatten.length=css.length * size:=by
 induction css with
 |nil=>simp
 |cons a l ih=>rw[List.flatten_cons,xI,ih (λc hc=>h c (by simp[hc])),h a (by simp),xJ,Nat.succ_mul,Nat.add_comm]
theorem uF{size:Nat}:∀{css:List (List Value)}(_:∀ cs∈css,cs.length=size) {j:Nat} (hj:j<css.length) (i:Nat),i<size->css.flatten[j * size+i]?=css[j][i]?
 |[],_,j,hj,_,_=>by simp at hj
 |a::l,h,0,_,i,hi=>by
  rw[List.flatten_cons,Nat.zero_mul,Nat.zero_add,List.getElem?_append_left (by rw[h a (by simp)];exact hi)];rfl
 |a::l,h,j+1,hj,i,hi=>by
  have ha:=h a (by simp);rw[List.flatten_cons,List.getElem?_append_right (by rw[ha,Nat.succ_mul];omega),ha,show(j+1) * size+i - size=j * size+i from by rw[Nat.succ_mul];omega];exact uF (λc hc=>h c (by simp[hc])) (by simpa using hj) i hi
def ah{α:Type}(w:World)(B:Option Nat)(t:TypeId)(size:Nat)(E:World->List Value->α->Prop)(v:Value)(l:List α):Prop :=
 ∃ css:List (List Value),css.length=l.length/\(∀ cs∈css,cs.length=size)/\mW w B t size v l.length css.flatten/\∀ i (h:i<css.length)(h':i<l.length),E w css[i] l[i]
section
variable {α : Type} {w w' : World} {B : Option Nat} {t : TypeId} {size : Nat} {E : World -> List Value -> α -> Prop} {v : Value} {l : List α}
theorem ah.mono{B':Option Nat}{E':World->List Value->α->Prop}(h:ah w B t size E v l)(hr:∀ n xs,mW w B t size v n xs->mW w' B' t size v n xs)(hE:∀ cs x,E w cs x->E' w' cs x):ah w' B' t size E' v l:=by
 obtain⟨css,h1,h2,h3,h4⟩:=h;exact⟨css,h1,h2,hr _ _ h3,λi a b=>hE _ _ (h4 i a b)⟩
theorem ah.below(h:ah w B t size E v l)(hb:Below w.heap.size w w')(hE:∀ cs x,E w cs x->E w' cs x):ah w' B t size E v l:=h.mono (λ_ _ hr=>hr.below hb) hE
theorem ah.kp{base b:Nat}{T:List TypeId}(h:ah w (some b) t size E v l)(hk:Kp base T w w')(hb:base<=b)(ht:t∈T)(hE:∀ cs x,E w cs x->E w' cs x):ah w' (some b) t size E v l:=h.mono (λ_ _ hr=>hr.kp hk hb ht) hE
theorem ah.nil(w:World)(b:Nat)(t:TypeId)(size:Nat)(E:World->List Value->α->Prop):ah w (some b) t size E (.slice none 0 0) [] :=
 ⟨[],rfl,(λ_ h=>absurd h List.not_mem_nil),World.ownsRow_nil w b t size,λi h=>absurd h (Nat.not_lt_zero i)⟩
theorem ah.slice(h:ah w B t size E v l):∃ A c,v=.slice A l.length c/\l.length<=c/\c<=9223372036854775807/\(A=none->l.length=0/\c=0):=by
 obtain⟨css,h1,h2,h3,h4⟩:=h;obtain⟨A,c,e,h5,h6,h7,_⟩:=h3.slice;exact⟨A,c,e,h5,h6,h7⟩
theorem ah.is(h:ah w B t size E v l):∃ A n c,v=.slice A n c:=by
 obtain⟨A,c,e,_⟩:=h.slice;exact⟨A,_,c,e⟩
theorem ah.get{A:Option Addr}{n c:Nat}(h:ah w B t size E (.slice A n c) l){i:Nat}(hi:i<l.length)(hs:0<size):∃ g off cs,A=some ⟨g,off,none⟩/\cs.length=size/\E w cs l[i]/\(∀ j u,cs[j]?=some u->w.cell? ⟨g,off+i * size+j,none⟩=some u):=by
 obtain⟨css,h1,h2,h3,h4⟩:=h;obtain⟨A',c',e,h5,h6,h7,h8⟩:=h3.slice;injection e with e1 e2 e3
 subst e1;obtain⟨g,off,rfl,hc⟩:=h8 (by rw[h3.len];exact Nat.mul_pos (by omega) hs);have hi':i<css.length:=by omega
 refine⟨g,off,css[i],rfl,h2 _ (xR _),h4 i hi' hi,λj u hu=>?_⟩;have hj:j<size:=by rw[<-h2 _ (xR hi')];exact(List.getElem?_eq_some_iff.1 hu).1
 rw[Nat.add_assoc];exact hc _ u (by rw[uF h2 hi' j hj];exact hu)
theorem ah.snoc{b:Nat}{v':Value}{x:α}{css:List (List Value)}{cs:List Value}(h1:css.length=l.length)(h2:∀ cs∈css,cs.length=size)(h4:∀ i (h:i<css.length)(h':i<l.length),E w' css[i] l[i])
  (hc:cs.length=size) (hx:E w' cs x) (h:w'.ownsRow b t size v' (l.length+1) (css.flatten++cs)):ah w' (some b) t size E v' (l++[x]):=by
 refine⟨css++[cs],by simp[h1],λc hc'=>?_,?_,λi ha hb=>?_⟩
 ·rcases List.mem_append.1 hc' with h|h
  ·exact h2 c h
  ·simp at h;subst h;exact hc
 ·show w'.ownsRow b t size v' (l++[x]).length (css++[cs]).flatten
  rw[xI,List.length_singleton,List.flatten_append,List.flatten_singleton];exact h
 ·rcases Nat.lt_or_ge i css.length with hi|hi
  ·rw[List.getElem_append_left hi,List.getElem_append_left (by omega)]
   exact h4 i hi (by omega)
  ·have e:i=css.length:=by simp at ha;omega
   subst e;rw[List.getElem_append_right (xB _),List.getElem_append_right (by omega)];simpa using hx
end
structure Only(e:TypeId)(w w':World):Prop where
 os:w'.os=w.os
 tape:w'.tape=w.tape
 output:w'.output=w.output
 size:w.heap.size<=w'.heap.size
 block:∀(g:Nat)(o:Obj),w.heap[g]?=some o->(∀(cs:Array Value)(fr:Nat × Nat),o≠Obj.cells cs e fr)->w'.heap[g]?=some o
theorem Only.below{e:TypeId}{w w':World}(h:Below w.heap.size w w'):Only e w w':=⟨h.os,h.tape,h.output,h.size,λg o hg _=>(h.block g (Array.getElem?_eq_some_iff.1 hg).1).trans hg⟩
theorem Only.trans{e:TypeId}{a b c:World}(h:Only e a b)(k:Only e b c):Only e a c:=⟨k.os.trans h.os,k.tape.trans h.tape,k.output.trans h.output,xM h.size k.size,λg o hg hn=>k.block g o (h.block g o hg hn) hn⟩
theorem Only.kp{e:TypeId}{w w':World}(h:Only e w w')(base:Nat){T:List TypeId}(hT:e ∉ T):Kp base T w w':=λg cs t _ ht hg=>h.block g _ hg (λcs' fr' e'=>by injection e' with _ e2;exact hT (e2 ▸ ht))
theorem Only.bk{e:TypeId}{w w':World}(h:Only e w w'){g:Nat}{t:TypeId}{cs:Array Value}(hg:Bk w g t cs)(ht:t≠e):Bk w' g t cs:=h.block g _ hg (λcs' fr' e'=>by injection e' with _ e2;exact ht e2)
theorem Only.row{w w':World}{b0:Nat}{t:TypeId}{size n:Nat}{v:Value}{xs:List Value}(h:w.grownBy w' v.ownBlock)(hr:w.ownsRow b0 t size v n xs):Only t w w' :=
 ⟨h.os,h.tape,h.output,h.size,λg o hg hn=>(h.block g (Array.getElem?_eq_some_iff.1 hg).1 (by
  intro e;rcases hr.2 with⟨rfl,_⟩|⟨g',cap,cur,rfl,_,hg',_⟩
  ·cases e
  ·simp[Value.ownBlock]at e
   subst e;rw[hg]at hg';injection hg' with hg'
   exact hn _ _ hg')).trans hg⟩
theorem Only.set{w:World}{g:Nat}{e:TypeId}{cs:Array Value}{fr:Nat × Nat}(hg:w.heap[g]?=some (.cells cs e fr))(j:Nat)(u:Value):Only e w (w.setCell ⟨g,j,none⟩ u) :=
 ⟨rfl,rfl,rfl,by simp,λg' o ho hn=>(Below.heap_setCell w ⟨g,j,none⟩ u g' (by
  rintro rfl;rw[hg]at ho;injection ho with ho
  exact hn _ _ ho.symm)).trans ho⟩
theorem aI{P:Program}{ops:Array Oper}{rest:List Oper}{o:Oper}{a:Act}{Q:Exit->Act->World->Prop}{w0:World}(hgd:o.guard=none)(s y:Operand)(t:TypeId)
  (ho:o.op=.call { callee:=.builtin .append,args:=#[s,y],argTypes:=#[t,t] })
  (base:Nat) (e:TypeId) (z:Value) (size bytes:Nat) (ht:P.underlying t=some (.slice e)) (hi:(P.info? e).map (λi=>(i.zero,i.size,i.bytes))=some (some z,size,bytes)) (hzs:z.cells.size=size) (hpos:0<size)
  {α:Type} (E:World->List Value->α->Prop) (v:Value) (l:List α) (hs:a.eval s=v) (hown:ah w0 (some base) e size E v l)
  (cs:List Value) (hcs:cs.length=size) (g:Nat) (hx:a.eval y=.slice (some ⟨g,0,none⟩) 1 1) (hg0:g=w0.heap.size) (h1:∀ u∈cs,u.oneCell'=true)
  (h63:l.length+1<=maxLen) (hbytes:(l.length+1) * bytes<=140737488355328) (hbase:base<=w0.heap.size)
  (h:∀ v' w',(∀ x,(∀ cs x,E w0 cs x->E w' cs x)->E w' cs x->ah w' (some base) e size E v' (l++[x]))->Below base w0 w'->Only e w0 w'->wpList P ops Q rest (a.put o.dst v') w') :
  wpList P ops Q (o::rest) a (w0.alloc (.cells cs.toArray e)):=by
 subst hg0;obtain⟨css,k1,k2,k3,k4⟩:=hown;obtain⟨i,hi0,hz0,hz1,hz2⟩:=info_parts hi;have hown:w0.ownsRow base e size v l.length css.flatten:=k3;refine wpList_append_own_at _ hgd s y t ho base e i z size bytes ht hi0 hz0 hz1 hz2 hzs hpos v l.length css.flatten hs (hown.alloc _) ⟨w0.heap.size,0,none⟩ 1 1 cs hx (by rw[hcs];omega) (λj u hu=>?_) h1 h63 hbytes (by simp;omega) ?_
 ·have e':((⟨w0.heap.size,0,none⟩:Addr).add j)=⟨w0.heap.size,j,none⟩:=by simp[Addr.add];omega
  rw[e',World.cell?_alloc_mark];simpa using hu
 intro v' w' hown' hg _ hv;refine h v' w' (λx hE hx'=>ah.snoc k1 k2 (λi a b=>hE _ _ (k4 i a b)) hcs hx' hown') (((Below.refl base w0).alloc hbase _).grown hg (by simp;omega) (λk hk=>(hown.lt k hk).1)) ?_;exact(Only.below ((Below.refl _ _).alloc (xB _) _)).trans (Only.row hg (hown.alloc _))
section
open Go.ChangeShapes Go.Deep Go.WideShapes
theorem add_add'(a:Addr)(i j:Nat):(a.add i).add j=a.add (i+j):=by
 unfold Addr.add;by_cases hi:i=0<;>by_cases hj:j=0<;>simp[hi,hj,Nat.add_assoc]
theorem G5{n:Nat}{β:Type}(p:Nat->β->Prop)(h:∀ i,i<n->∃ b,p i b):∃ l:List β,l.length=n/\∀ i (hi:i<l.length),p i l[i]:=by
 induction n with
 |zero=>exact⟨[],rfl,λi hi=>absurd hi (by simp)⟩
 |succ n ih =>
  obtain⟨l,hl,hp⟩:=ih λi hi=>h i (by omega)
  obtain⟨b,hb⟩:=h n (by omega);refine⟨l++[b],by simp[hl],λi hi=>?_⟩;rw[List.getElem_append];split
  ·exact hp i _
  ·have e:i=n:=by simp at hi;omega
   subst e;simp[hl];exact hb
section
variable {H : Type} {enc : TypeId × Value -> H} {P : Program} {w : World} {base : Nat} {spare : Nat -> Bool} {held : Bool}
theorem Js{t e:TypeId}{fs:Array Field}{fuel:Nat}{v:Value}{x:DataW H × List MemPlace}(ht:P.underlying t=some (.slice e))(he:P.underlying e=some (.struct fs))
  (hone:oneCellFields P fs=true) (hC:P.cellsOf e=fs.size) (hpos:0<fs.size) (h:DataW.trod enc P w base spare held fuel t [v]=some x) :
  ∃(A:Option Addr)(n c:Nat)(vs:List (List Value)),v=.slice A n c/\n<=c/\c<=maxLen/\(A=none->n=0/\c=0)/\vs.length=n/\Lie w A vs.flatten /\
   ∀ x∈vs,x.length=fs.size/\∀(j:Nat)(f:Field),fs[j]?=some f->∃(u:Value)(k:Nat)(y:DataW H × List MemPlace),x[j]?=some u/\DataW.trod enc P w base spare held k f.type [u]=some y:=by
 rcases open_slice ht h with⟨hcs,_⟩|⟨a,len,cap,m,k,D,Pl,hcs,hb,hl,hm,hmm,_,hi⟩
 ·obtain rfl:v=.slice none 0 0:=by simpa using hcs
  exact⟨none,0,0,[],rfl,xB _,Nat.zero_le _,λ_=>⟨rfl,rfl⟩,rfl,Lie.nil _ _,λx hx=>by simp at hx⟩
 ·obtain rfl:v=.slice (some a) len cap:=by simpa using hcs
  have hlm:len<=m:=by rw[hmm];split<;>omega
  obtain⟨vs,hvl,hv⟩:=G5 (n:=len) (λi (x:List Value)=>x.length=fs.size/\(∀ j u,x[j]?=some u->w.cell? (a.add (i * fs.size+j))=some u)/\∀(j:Nat)(f:Field),fs[j]?=some f->∃(u:Value)(k:Nat)(y:DataW H × List MemPlace),x[j]?=some u/\DataW.trod enc P w base spare held k f.type [u]=some y) (by
   intro i hil;obtain⟨cs',hc,ht'⟩:=hi i (by omega);rw[hC]at hc;obtain⟨ys,n',hn',hy,hlen,hyl,hf⟩:=DataW.trod_struct he ht';obtain⟨_,hcl,hat⟩:=World.cells?_some hc;refine⟨cs',hcl,λj u hu=>?_,λj f hj=>?_⟩
   ·have hj:j<fs.size:=by rw[<-hcl];exact(List.getElem?_eq_some_iff.1 hu).1
    rw[<-add_add',hat j hj,hu]
   ·obtain⟨ho,hk⟩:=hone_of hone j f hj
    have hjl:j<fs.size:=(Array.getElem?_eq_some_iff.1 hj).1;have h1:=hf j f hj;rw[ho,hk]at h1;have hone':(cs'.drop j).take 1=[cs'[j]'(by omega)]:=by
     rw[xQ (by omega)];rfl
    rw[hone']at h1;have hys:ys[j]?=some (ys[j]'(by omega)):=yF (by omega);exact⟨cs'[j]'(by omega),_,_,yF (by omega),h1.trans hys⟩)
  refine⟨some a,len,cap,vs,rfl,hl,hm,λe=>by(cases e),hvl,λh0=>?_,λx hx=>?_⟩
  ·have P5:∀ x∈vs,x.length=fs.size:=λx hx=>by
    obtain⟨i,hi',rfl⟩:=List.getElem_of_mem hx;exact(hv i hi').1
   have h0':0<len:=by
    rcases Nat.eq_zero_or_pos len with e|e
    ·subst e
     obtain rfl:vs=[]:=List.length_eq_zero_iff.1 hvl;simp at h0
    ·exact e
   have hspot:a.spot=none:=by
    have h3:=(hv 0 (by omega)).2.1 0 _ (yF (by rw[P5 _ (xR _)];exact hpos));rw[Nat.zero_mul,Nat.zero_add]at h3;have ha:a.add 0=a:=by simp[Addr.add]
    rw[ha]at h3;unfold World.cell? at h3;split at h3
    ·split at h3
     ·cases h3
     ·rename_i hh;simpa using hh
    ·cases h3
   obtain⟨ab,ao,asp⟩:=a;simp only at hspot;subst hspot;refine⟨ab,ao,rfl,λj u hu=>?_⟩;have hadd:∀ q,(⟨ab,ao,none⟩:Addr).add q=⟨ab,ao+q,none⟩:=λq=>by unfold Addr.add;split<;>simp_all
   rw[<-hadd];have key:∀(vs:List (List Value))(s:Nat),(∀ x∈vs,x.length=fs.size)->(∀ i (hi:i<vs.length),∀ j u,vs[i][j]?=some u->w.cell? ((⟨ab,ao,none⟩:Addr).add ((s+i) * fs.size+j))=some u) ->
     ∀ j u,vs.flatten[j]?=some u->w.cell? ((⟨ab,ao,none⟩:Addr).add (s * fs.size+j))=some u:=by
    intro vs;induction vs with
    |nil=>intro s _ _ j u hu;simp at hu
    |cons x vs ih =>
     intro s hx hc j u hu;rw[List.flatten_cons]at hu;have hxl:=hx x (by simp);rcases Nat.lt_or_ge j x.length with hj|hj
     ·rw[List.getElem?_append_left hj]at hu
      exact hc 0 (by simp) j u hu
     ·rw[List.getElem?_append_right hj]at hu
      have:=ih (s+1) (λy hy=>hx y (by simp[hy])) (λi hi j u h=>by
       have:=hc (i+1) (by simpa using hi) j u h;rwa [show s+(i+1)=s+1+i from by omega]at this) (j - x.length) u hu
      rwa [hxl,Nat.succ_mul,show s * fs.size+fs.size+(j - fs.size)=s * fs.size+j from by omega]at this
   have:=key vs 0 P5 (λi hi j u h=>by rw[Nat.zero_add];exact(hv i hi).2.1 j u h) j u hu;rwa [Nat.zero_mul,Nat.zero_add]at this
  ·obtain⟨i,hi',rfl⟩:=List.getElem_of_mem hx
   exact⟨(hv i hi').1,(hv i hi').2.2⟩
end
end
section
open Go.BigFrame
theorem dw{P:Program}{C:World->Prop}{K:Act->Prop}{a:Act}{o:Oper}(ty:TypeId)(x:Operand)(ho:o.op=.load ty x)(g:Nat)(hx:a.eval x=.pointer (some ⟨g,0,none⟩))
  (t:TypeId) (cs:Array Value) (d:TypeDesc) (hg:∀ w,C w->Bk w g t cs) (hu:P.underlying ty=some d) (hd:(match d with| .struct _| .array _ _=>true|_=>false)=true) (hi:(P.info? ty).map (·.size)=some cs.size)
  (h:K (a.put o.dst (.agg cs))):o.quiet P a C K :=
 ⟨_,λw hw=>by
  unfold Oper.quietAt execOp;simp only[ho,hx,Instr.loadAt,Instr.sureAddr,Sem.run_bind,Sem.run_pure,Result.andThen_ok,run_loadVar_row w g t ty cs (0,0) d (hg w hw) hu hd hi];exact⟨rfl,rfl⟩,h⟩
theorem Bk.row{w:World}{g:Nat}{t:TypeId}{old:Array Value}(h:Bk w g t old)(cs:Array Value):Bk (w.setRow g cs) g t cs:=by
 unfold Bk at h ⊢;simp[World.setRow,Array.getElem?_modify,h]
theorem Bk.jK{w:World}{g g':Nat}{t:TypeId}{cs:Array Value}(h:Bk w g t cs)(hg:g≠g')(cs':Array Value):Bk (w.setRow g' cs') g t cs:=by
 unfold Bk at h ⊢;have h':¬g'=g:=λe=>hg e.symm
 simp[World.setRow,Array.getElem?_modify,h',h]
theorem aK{B:Nat}{a w:World}{g:Nat}(h:Below B a w)(hg:B<=g)(cs:Array Value):Below B a (w.setRow g cs) :=
 ⟨h.os,h.tape,h.output,by simpa[World.setRow]using h.size,λi hi=>by
  rw[<-h.block i hi];have:¬g=i:=by omega
  simp[World.setRow,Array.getElem?_modify,this]⟩
namespace Lst
section
variable {P : Program} {ops : Array Oper} {md : Region.Mode} {C : World -> Prop} {K : Act -> Prop} {z : Nat}
def lastB(md:Region.Mode)(ops:Array Oper)(z:Nat):Bool :=
 decide (z+1=ops.size)&&(List.range z).all λi=>(List.range ops.size).any λj=>decide (i<j)&&match ops[j]? with
  |none=>false
  |some o=>o.after.any λe=>Region.binds md e&&e.on==i
def Shut(md:Region.Mode)(ops:Array Oper)(listed:Array Bool):Prop :=
 listed.size=ops.size/\∀ j o,ops[j]?=some o->listed.getD j false=true->∀ e∈o.after,Region.binds md e=true->listed.getD e.on false=true
theorem Shut.start:Shut md ops (Array.replicate ops.size false):=by
 refine⟨by simp,λj o _ h=>?_⟩;rw[Array.getD_eq_getD_getElem?,Array.getElem?_replicate]at h;split at h<;>simp at h
theorem Shut.next{listed:Array Bool}(h:Shut md ops listed){i:Nat}(hi:i∈Region.ready md ops listed):Shut md ops (listed.setIfInBounds i true):=by
 refine⟨by simpa using h.1,λj o ho hj e he hb=>?_⟩;by_cases hji:j=i
 ·subst hji
  obtain⟨_,o',ho',hall⟩:=mem_ready.1 hi;rw[ho]at ho';injection ho' with ho'
  subst ho';exact getD_set_true (hall e he hb)
 ·rw[getD_set_ne false (Ne.symm hji)]at hj
  exact getD_set_true (h.2 j o ho hj e he hb)
theorem Shut.all{listed:Array Bool}(h:Shut md ops listed)(hL:lastB md ops z=true)(hz:z∈Region.ready md ops listed):∀ i,i<z->listed.getD i false=true:=by
 simp only[lastB,xX,decide_eq_true_eq]at hL;obtain⟨hs,hL⟩:=hL;have key:∀ n i,z - i=n->i<z->listed.getD i false=true:=by
  intro n;induction n using Nat.strongRecOn with
  |_ n ih =>
   intro i hn hi;obtain⟨j,hj,hjj⟩:=List.any_eq_true.1 (List.all_eq_true.1 hL i (List.mem_range.2 hi));simp only[xX,decide_eq_true_eq]at hjj;obtain⟨hij,hjj⟩:=hjj;have hjs:j<ops.size:=List.mem_range.1 hj;rw[yD hjs]at hjj;simp only at hjj;obtain⟨m,hm,hmm⟩:=Array.any_eq_true.1 hjj;simp only[xX,beq_iff_eq]at hmm;have hjo:ops[j]?=some ops[j]:=yD hjs;rw[<-hmm.2];by_cases hjz:j=z
   ·subst hjz
    obtain⟨_,o',ho',hall⟩:=mem_ready.1 hz;rw[hjo]at ho';injection ho' with ho'
    subst ho';exact hall _ (Array.getElem_mem hm) hmm.1
   ·exact h.2 j _ hjo (ih (z - j) (by omega) j rfl (by omega)) _ (Array.getElem_mem hm) hmm.1
 exact λi hi=>key _ i rfl hi
def wE(P:Program)(md:Region.Mode)(ops:Array Oper)(C:World->Prop)(z:Nat)(K:Act->Prop):Nat->Array Bool->Act->Prop
 |0,_,_=>False
 |fuel+1,listed,a=>Region.ready md ops listed≠[]/\∀ i∈Region.ready md ops listed,if i=z then K a else qOp P ops C i (wE P md ops C z K fuel (listed.setIfInBounds i true)) a
theorem Qw{listed:Array Bool}(hs:listed.size=ops.size)(hL:lastB md ops z=true)(h:∀ i,i<z->listed.getD i false=true):Region.ready md ops (listed.setIfInBounds z true)=[]:=by
 simp only[lastB,xX,decide_eq_true_eq]at hL;rcases hq:Region.ready md ops (listed.setIfInBounds z true)with _|⟨i,r⟩
 ·rfl
 ·exfalso
  have hi:i∈Region.ready md ops (listed.setIfInBounds z true):=by rw[hq];simp
  obtain⟨h0,o,ho,_⟩:=mem_ready.1 hi;have hio:i<ops.size:=(Array.getElem?_eq_some_iff.1 ho).1;by_cases hiz:i=z
  ·subst hiz
   rw[Array.getD_eq_getD_getElem?,Array.getElem?_setIfInBounds_self_of_lt (by omega)]at h0;simp at h0
  ·rw[getD_set_ne true (Ne.symm hiz)]at h0
   have h1:=h i (by omega);have hls:i<listed.size:=by omega
   simp[hls]at h0 h1;rw[h0]at h1;cases h1
theorem zO{Q:Exit->Act->World->Prop}(hL:lastB md ops z=true)(hK:∀ a w,C w->K a->wpOp P ops Q z (λa' w'=>Q .normal a' w') a w) :
  ∀(fuel:Nat)(listed:Array Bool)(a:Act)(w:World),Shut md ops listed->C w->wE P md ops C z K fuel listed a->wpAny P md ops Q fuel listed a w
 |0,_,_,_,_,_,h=>h.elim
 |fuel+1,listed,a,w,hs,hw,h=>⟨λh0=>(h.1 h0).elim,λi hi=>by
  have h1:=h.2 i hi;by_cases hiz:i=z
  ·subst hiz
   rw[if_pos rfl]at h1;have hr:=Qw hs.1 hL (hs.all hL hi);refine wpOp_mono (λa' w' hq=>?_) (hK a w hw h1);cases fuel with
   |zero=>exact⟨hr,hq⟩
   |succ f=>exact⟨λ_=>hq,by rw[hr];simp⟩
  ·rw[if_neg hiz]at h1
   exact wpOp_of_qOp hw (λa' w' hw'=>zO hL hK fuel _ a' w' (hs.next hi) hw') h1⟩
theorem Eh{i:Nat}{oi:Oper}{v:Value}(hL:lastB md ops z=true)(hiz:i<z)(hi:ops[i]?=some oi)(hsel:∀(j:Nat)(o:Oper) cs b,ops[j]?=some o->o.op≠.select cs b) :
  ∀(fuel:Nat)(listed:Array Bool)(a:Act),Shut md ops listed ->
   (∀ j oj,ops[j]?=some oj->j≠i->listed.getD j true=false->(∀ e∈oj.after,Region.binds md e=true->e.on≠i)->oi.apart ops oj=true) ->
   i∈Region.ready md ops listed->YieldsIn P ops C oi v a ->
   wE P md ops C z K fuel (listed.setIfInBounds i true) (a.put oi.dst v)->wE P md ops C z K (fuel+1) listed a:=by
 have TG:∀(listed:Array Bool),Shut md ops listed->i∈Region.ready md ops listed->z ∉ Region.ready md ops listed:=λlisted hs hr hz=>by
  have h1:=hs.all hL hz i hiz;have h0:=(mem_ready.1 hr).1;have hls:i<listed.size:=by rw[hs.1];exact(Array.getElem?_eq_some_iff.1 hi).1
  simp[hls]at h0 h1;rw[h0]at h1;cases h1
 intro fuel;induction fuel with
 |zero=>intro listed a _ _ _ _ H;exact H.elim
 |succ fuel ih =>
  intro listed a hs hfree hr hy H;refine⟨λh=>(by rw[h]at hr;cases hr),λj hj=>?_⟩;have hjz:j≠z:=λe=>TG listed hs hr (e ▸ hj)
  rw[if_neg hjz];by_cases hji:j=i
  ·subst hji;exact hy.qOp hi H
  ·have h1:=H.2 j (ready_mono hj hji)
   rw[if_neg hjz]at h1;obtain⟨hjun,oj,hoj,hall⟩:=mem_ready.1 hj;have hnot:∀ e∈oj.after,Region.binds md e=true->e.on≠i:=λe he hb heq=>by
    have h1:=hall e he hb;have h0:=(mem_ready.1 hr).1;rw[heq]at h1;rcases Nat.lt_or_ge i listed.size with h'|h'
    ·simp[h']at h0 h1;rw[h0]at h1;cases h1
    ·simp[Array.getElem?_eq_none h']at h1
   have h2:=qOp_put hoj (hfree j oj hoj hji hjun hnot) (λcs b=>hsel i oi cs b hi) (λcs b=>hsel j oj cs b hoj) hy h1;have hfree':∀ k ok,ops[k]?=some ok->k≠i->(listed.setIfInBounds j true).getD k true=false ->
     (∀ e∈ok.after,Region.binds md e=true->e.on≠i)->oi.apart ops ok=true:=λk ok hk hki hun hno=>by
    refine hfree k ok hk hki ?_ hno;by_cases hjk:j=k
    ·subst hjk;exact hjun
    ·rw[getD_set_ne true hjk]at hun;exact hun
   refine qOp_mono (λa' h3=>ih (listed.setIfInBounds j true) a' (hs.next hj) hfree' (ready_mono hr (Ne.symm hji)) h3.1 ?_) h2;rw[Array.setIfInBounds_comm _ _ hji];exact h3.2
theorem zS(hL:lastB md ops z=true)(hs:Region.noSelect ops=true):∀(l:List Oper)(k:Nat)(listed:Array Bool)(a:Act),(∀ j,j<l.length->l[j]?=ops[k+j]?)->k+l.length=z->Shut md ops listed ->
  Region.lexFrom md ops (l.length+1) k listed=true->wpQuiet P ops C K l a->wE P md ops C z K (l.length+1) listed a
 |[],k,listed,a,_,hk,hsh,hB,h=>by
  simp only[xO,xK]at hk;subst hk;simp only[xO,Nat.zero_add,Region.lexFrom,xX]at hB;have hz:k∈Region.ready md ops listed:=by simpa using hB.1.1
  refine⟨λe=>(by rw[e]at hz;cases hz),λi hi=>?_⟩;have hik:i=k:=by
   obtain⟨h0,o,ho,_⟩:=mem_ready.1 hi;have hio:i<ops.size:=(Array.getElem?_eq_some_iff.1 ho).1;have hsz:k+1=ops.size:=by
    have h:=hL;simp only[lastB,xX,decide_eq_true_eq]at h;exact h.1
   rcases Nat.lt_or_ge i k with hlt|hge
   ·have h1:=hsh.all hL hz i hlt
    have hls:i<listed.size:=by rw[hsh.1];exact hio
    simp[hls]at h0 h1;rw[h0]at h1;cases h1
   ·omega
  rw[if_pos hik];exact h
 |o::l,k,listed,a,hl,hk,hsh,hB,h=>by
  have h0:ops[k]?=some o:=by simpa using(hl 0 (by simp)).symm
  simp only[xJ]at hk hB ⊢;rw[Region.lexFrom]at hB;simp only[xX]at hB;obtain⟨⟨hr,hf⟩,hB'⟩:=hB;have hst:qOp P ops C k (wpQuiet P ops C K l) a:=by unfold qOp;simp only[h0];exact h
  obtain⟨v,hy,hK⟩:=yieldsIn_of_qOp h0 hst;have hr':k∈Region.ready md ops listed:=by simpa using hr
  exact Eh hL (by omega) h0 (Region.noSelect_spec hs) (l.length+1) listed a hsh (Region.free_spec h0 hf) hr' hy
   (zS hL hs l (k+1) _ _ (λj hj=>by have:=hl (j+1) (by simpa using hj);simpa[Nat.add_assoc,Nat.add_comm 1 j]using this) (by omega) (hsh.next hr') hB' hK)
end
theorem region{P:Program}{C:World->Prop}{id:Nat}{Q:Exit->Act->World->Prop}{a:Act}{w:World}{l:List Oper}{o:Oper}(hm:P.follows .mixedOrders=true)(hB:Region.lexB .any (l++[o]).toArray=true)(hL:lastB .any (l++[o]).toArray l.length=true)
  (hC:C w.drew) (hg:o.guard=none) (h:wpQuiet P (l++[o]).toArray C (λa'=>∀ w',C w'->∀ K:Act->World->Prop,(∀ a w,Q .normal a w->K a w)->Oper.wp P o a' w' K Q) l a):(Code.region id (l++[o]).toArray true).wp P Q a w:=by
 simp only[Region.lexB,xX]at hB;refine wp_region_any hm (zO (C:=C) (z:=l.length) (K:=λa'=>∀ w',C w'->∀ K:Act->World->Prop,(∀ a w,Q .normal a w->K a w)->Oper.wp P o a' w' K Q) hL (λa w hw hK=>?_) _ _ _ _ Shut.start hC ?_)
 ·refine wpOp_step (o:=o) (by simp) (λK' hK'=>?_)
  rw[if_pos (by unfold Region.wanted;rw[hg])];exact hK w hw K' hK'
 ·have e:(l++[o]).toArray.size=l.length+1:=by simp
  rw[e];exact zS hL hB.1 l 0 _ _ (λj hj=>by simp[List.getElem?_append_left hj]) (by simp) (by rw[<-e];exact Shut.start) (by have:=hB.2;rwa [e]at this) h
theorem aF{P:Program}{C:World->Prop}{K:Act->Prop}{a:Act}{o:Oper}(ty:TypeId)(x:Operand)(ho:o.op=.load ty x)(p:Addr)(hx:a.eval x=.pointer (some p))
  (v:Value) (hg:∀ w,C w->w.cell? p=some v) (d:TypeDesc) (hu:P.underlying ty=some d) (hd:(match d with| .struct _| .array _ _=>true|_=>false)=false)
  (h:K (a.put o.dst v)):o.quiet P a C K :=
 ⟨_,λw hw=>by
  have hag:(isAgg ty).run P w=.ok false w:=by
   unfold isAgg;rw[Sem.run_bind,run_underlying hu w];cases d<;>simp_all
  have hl:(loadVar ty p).run P w=.ok v w:=by
   have hc:=hg w hw;simp[loadVar,Sem.run_bind,hag,go_sem,hc]
  unfold Oper.quietAt execOp;simp only[ho,hx,Instr.loadAt,Instr.sureAddr,Sem.run_bind,Sem.run_pure,Result.andThen_ok,hl];exact⟨rfl,rfl⟩,h⟩
theorem dh{P:Program}{id:Nat}{Q:Exit->Act->World->Prop}{a:Act}{w:World}{l:List Oper}{o:Oper}(W:World)(hC:Bl W w)(ho:l.getLast?=some o)(hm:P.follows .mixedOrders=true)(hB:Region.lexB .any l.toArray=true)(hL:lastB .any l.toArray (l.length - 1)=true)
  (hg:o.guard=none) (h:wpQuiet P l.toArray (Bl W) (λa'=>∀ w',Bl W w'->∀ K:Act->World->Prop,(∀ a w,Q .normal a w->K a w)->Oper.wp P o a' w' K Q) l.dropLast a):(Code.region id l.toArray true).wp P Q a w:=by
 have e:l=l.dropLast++[o]:=by
  have hne:l≠[]:=by rintro rfl;simp at ho
  have h2:=List.dropLast_concat_getLast hne;rw[List.getLast?_eq_some_getLast hne]at ho;injection ho with ho
  rw[ho]at h2;exact h2.symm
 have e2:l.dropLast.length=l.length - 1:=List.length_dropLast;generalize l.dropLast=l0 at *;subst e;exact region hm hB (by rw[e2];exact hL) (hC.drewN 1) hg h
end Lst
end
section
variable {P : Program} {ops : Array Oper} {Q : Exit -> Act -> World -> Prop} {md : Region.Mode} {S : World -> Prop} {D : List Nat}
def noneOf(D:List Nat)(listed:Array Bool):Bool:=D.all λk=>!listed.getD k true
theorem uz{listed:Array Bool}(h:noneOf D listed=true)(k:Nat)(hk:k∈D):listed.getD k true=false:=by
 have:=List.all_eq_true.1 h k hk;simpa using this
theorem CY{listed:Array Bool}(h:∀ k∈D,listed.getD k true=false):noneOf D listed=true:=List.all_eq_true.2 λk hk=>by rw[h k hk];rfl
theorem fD{listed:Array Bool}{i:Nat}(h:noneOf D listed=true)(hi:i ∉ D):noneOf D (listed.setIfInBounds i true)=true:=CY λk hk=>by
 rw[getD_set_ne true (by rintro rfl;exact hi hk)];exact uz h k hk
def wpAnyL(P:Program)(md:Region.Mode)(ops:Array Oper)(Q:Exit->Act->World->Prop)(S:World->Prop)(D:List Nat):Nat->Array Bool->Act->World->Prop
 |0,listed,a,w=>Region.ready md ops listed=[]/\Q .normal a w
 |fuel+1,listed,a,w =>
  (Region.ready md ops listed=[]->Q .normal a w) /\
  ∀ i∈Region.ready md ops listed,wpOp P ops Q i (λa' w'=>(noneOf D (listed.setIfInBounds i true)=true->S w')/\wpAnyL P md ops Q S D fuel (listed.setIfInBounds i true) a' w') a w
theorem zQ:∀(fuel:Nat)(listed:Array Bool)(a:Act)(w:World),wpAnyL P md ops Q S D fuel listed a w->wpAny P md ops Q fuel listed a w
 |0,_,_,_,h=>h
 |fuel+1,_,_,_,h=>⟨h.1,λi hi=>wpOp_mono (λa' w' h'=>zQ fuel _ a' w' h'.2) (h.2 i hi)⟩
def zi(md:Region.Mode)(ops:Array Oper)(D:List Nat)(i:Nat):Bool:=D.all λk=>k != i&&match ops[k]? with
 |none=>false
 |some o=>o.after.any λe=>Region.binds md e&&(e.on==i||D.contains e.on)
theorem KP{i:Nat}{listed:Array Bool}(hw:zi md ops D i=true)(hi:listed.getD i true=false)(hD:noneOf D listed=true):∀ j∈Region.ready md ops listed,j ∉ D:=by
 intro j hj hjD;obtain⟨_,o,ho,hall⟩:=mem_ready.1 hj;have h1:=List.all_eq_true.1 hw j hjD;simp only[ho,xX]at h1;obtain⟨n,hn,h2⟩:=Array.any_eq_true.1 h1.2;obtain⟨e,he,h2⟩:∃ e∈o.after,(Region.binds md e&&(e.on==i||D.contains e.on))=true:=⟨o.after[n],Array.getElem_mem hn,h2⟩;simp only[xX,Bool.or_eq_true,beq_iff_eq]at h2;have h3:=hall e he h2.1;have hne:∀ k,listed.getD k true=false->listed.getD k false=false:=by
  intro k hk;rcases Nat.lt_or_ge k listed.size with h'|h'
  ·simp[h']at hk ⊢;exact hk
  ·simp[Array.getElem?_eq_none h']at hk
 rcases h2.2 with h4|h4
 ·rw[h4,hne _ hi]at h3;cases h3
 ·rw[hne _ (uz hD _ (List.contains_iff_mem.1 h4))]at h3;cases h3
theorem wpAnyL_first{i:Nat}{oi:Oper}{v:Value}(hi:ops[i]?=some oi)(hsel:∀(j:Nat)(o:Oper) cs b,ops[j]?=some o->o.op≠.select cs b)
  (hQ:∀ c a w,Q (.panic c) (a.put oi.dst v) w->Q (.panic c) a w) (hwt:zi md ops D i=true) (hiD:i ∉ D) :
  ∀(fuel:Nat)(listed:Array Bool)(a:Act)(w:World),
   noneOf D listed=true ->
   (∀ j oj,ops[j]?=some oj->j≠i->listed.getD j true=false->(∀ e∈oj.after,Region.binds md e=true->e.on≠i)->oi.apart ops oj=true) ->
   i∈Region.ready md ops listed->YieldsIf P ops S oi v a->S w ->
   wpAnyL P md ops Q S D fuel (listed.setIfInBounds i true) (a.put oi.dst v) w->wpAnyL P md ops Q S D (fuel+1) listed a w:=by
 intro fuel;induction fuel with
 |zero =>
  intro listed a w hD _ hr hy hS H;refine⟨λh=>(by rw[h]at hr;cases hr),λj hj=>?_⟩;by_cases hji:j=i
  ·subst hji;exact hy.wpOp hi hS ⟨λ_=>hS,H⟩
  ·have:=ready_mono hj hji
   rw[H.1]at this;cases this
 |succ fuel ih =>
  intro listed a w hD hfree hr hy hS H;refine⟨λh=>(by rw[h]at hr;cases hr),λj hj=>?_⟩;by_cases hji:j=i
  ·subst hji;exact hy.wpOp hi hS ⟨λ_=>hS,H⟩
  ·have h1:=H.2 j (ready_mono hj hji)
   obtain⟨hjun,oj,hoj,hall⟩:=mem_ready.1 hj;have hnot:∀ e∈oj.after,Region.binds md e=true->e.on≠i:=λe he hb heq=>by
    have h1:=hall e he hb;have h0:=(mem_ready.1 hr).1;rw[heq]at h1;rcases Nat.lt_or_ge i listed.size with h'|h'
    ·simp[h']at h0 h1;rw[h0]at h1;cases h1
    ·simp[Array.getElem?_eq_none h']at h1
   have h2:=wpOp_putIf hoj (hfree j oj hoj hji hjun hnot) (λcs b=>hsel i oi cs b hi) (λcs b=>hsel j oj cs b hoj) hQ hy h1;have hfree':∀ k ok,ops[k]?=some ok->k≠i->(listed.setIfInBounds j true).getD k true=false ->
     (∀ e∈ok.after,Region.binds md e=true->e.on≠i)->oi.apart ops ok=true:=λk ok hk hki hun hno=>by
    refine hfree k ok hk hki ?_ hno;by_cases hjk:j=k
    ·subst hjk;exact hjun
    ·rw[getD_set_ne true hjk]at hun;exact hun
   have hjD:=KP hwt (mem_ready.1 hr).1 hD j hj;have hD':=fD hD hjD;refine wpOp_mono (λa' w' h3=>⟨λ_=>h3.2.1 (fD (fD hD hiD) hjD),ih (listed.setIfInBounds j true) a' w' hD' hfree' (ready_mono hr (Ne.symm hji)) h3.1 (h3.2.1 (fD (fD hD hiD) hjD)) ?_⟩) h2;rw[Array.setIfInBounds_comm _ _ hji];exact h3.2.2
theorem DC{i:Nat}{oi:Oper}{v:Value}(hi:ops[i]?=some oi)(hsel:∀(j:Nat)(o:Oper) cs b,ops[j]?=some o->o.op≠.select cs b)
  (hQ:∀ c a w,Q (.panic c) (a.put oi.dst v) w->Q (.panic c) a w) (hiD:i ∉ D) :
  ∀(fuel:Nat)(listed:Array Bool)(a:Act)(w:World),
   (∀ j oj,ops[j]?=some oj->j≠i->listed.getD j true=false->(∀ e∈oj.after,Region.binds md e=true->e.on≠i)->oi.apart ops oj=true) ->
   i∈Region.ready md ops listed->YieldsIf P ops (λ_=>True) oi v a->(noneOf D (listed.setIfInBounds i true)=true->S w) ->
   wpAnyL P md ops Q S D fuel (listed.setIfInBounds i true) (a.put oi.dst v) w->wpAnyL P md ops Q S D (fuel+1) listed a w:=by
 intro fuel;induction fuel with
 |zero =>
  intro listed a w _ hr hy hS H;refine⟨λh=>(by rw[h]at hr;cases hr),λj hj=>?_⟩;by_cases hji:j=i
  ·subst hji;exact hy.wpOp hi trivial ⟨hS,H⟩
  ·have:=ready_mono hj hji
   rw[H.1]at this;cases this
 |succ fuel ih =>
  intro listed a w hfree hr hy hS H;refine⟨λh=>(by rw[h]at hr;cases hr),λj hj=>?_⟩;by_cases hji:j=i
  ·subst hji;exact hy.wpOp hi trivial ⟨hS,H⟩
  ·have h1:=H.2 j (ready_mono hj hji)
   obtain⟨hjun,oj,hoj,hall⟩:=mem_ready.1 hj;have hnot:∀ e∈oj.after,Region.binds md e=true->e.on≠i:=λe he hb heq=>by
    have h1:=hall e he hb;have h0:=(mem_ready.1 hr).1;rw[heq]at h1;rcases Nat.lt_or_ge i listed.size with h'|h'
    ·simp[h']at h0 h1;rw[h0]at h1;cases h1
    ·simp[Array.getElem?_eq_none h']at h1
   have h2:=wpOp_putIf hoj (hfree j oj hoj hji hjun hnot) (λcs b=>hsel i oi cs b hi) (λcs b=>hsel j oj cs b hoj) hQ hy h1;have hfree':∀ k ok,ops[k]?=some ok->k≠i->(listed.setIfInBounds j true).getD k true=false ->
     (∀ e∈ok.after,Region.binds md e=true->e.on≠i)->oi.apart ops ok=true:=λk ok hk hki hun hno=>by
    refine hfree k ok hk hki ?_ hno;by_cases hjk:j=k
    ·subst hjk;exact hjun
    ·rw[getD_set_ne true hjk]at hun;exact hun
   refine wpOp_mono (λa' w' h3=>⟨λhn=>h3.2.1 (CY λk hk=>?_),ih (listed.setIfInBounds j true) a' w' hfree' (ready_mono hr (Ne.symm hji)) h3.1 (λhn=>h3.2.1 (by rw[Array.setIfInBounds_comm _ _ (Ne.symm hji)];exact hn)) ?_⟩) h2
   ·rw[Array.setIfInBounds_comm _ _ hji]
    exact h3.2.2
   ·have hik:i≠k:=by rintro rfl;exact hiD hk
    rw[Array.setIfInBounds_comm _ _ (Ne.symm hji),getD_set_ne true hik];exact uz hn k hk
theorem pY(i:Nat){oi:Oper}{v:Value}{fuel:Nat}{listed:Array Bool}{a:Act}{w:World}(hi:ops[i]?=some oi)
  (hs:Region.noSelect ops=true) (hf:Region.free md ops listed i=true) (hr:(Region.ready md ops listed).contains i=true) (hwt:(zi md ops D i&&!D.contains i&&noneOf D listed)=true)
  (hQ:∀ c a w,Q (.panic c) (a.put oi.dst v) w->Q (.panic c) a w) (hS:S w) (hw:Region.wanted oi (yielded ops a.tmps)=true) (hy:∀ w,S w->(execOp a.eval oi).run P w=.ok (.value v) w)
  (h:wpAnyL P md ops Q S D fuel (listed.setIfInBounds i true) (a.put oi.dst v) w):wpAnyL P md ops Q S D (fuel+1) listed a w:=by
 simp only[xX,Bool.not_eq_true']at hwt;exact wpAnyL_first hi (Region.noSelect_spec hs) hQ hwt.1.1 (λhm=>by have:=hwt.1.2;rw[List.contains_iff_mem.2 hm]at this;cases this) fuel listed a w hwt.2 (Region.free_spec hi hf) (by simpa using hr) (.inl ⟨hw,hy⟩) hS h
theorem Ei(i:Nat){oi:Oper}{v:Value}{fuel:Nat}{listed:Array Bool}{a:Act}{w:World}(hi:ops[i]?=some oi)
  (hs:Region.noSelect ops=true) (hf:Region.free md ops listed i=true) (hr:(Region.ready md ops listed).contains i=true) (hiD:D.contains i=false)
  (hQ:∀ c a w,Q (.panic c) (a.put oi.dst v) w->Q (.panic c) a w) (hS:noneOf D (listed.setIfInBounds i true)=true->S w) (hw:Region.wanted oi (yielded ops a.tmps)=true) (hy:∀ w,(execOp a.eval oi).run P w=.ok (.value v) w)
  (h:wpAnyL P md ops Q S D fuel (listed.setIfInBounds i true) (a.put oi.dst v) w):wpAnyL P md ops Q S D (fuel+1) listed a w :=
 DC hi (Region.noSelect_spec hs) hQ (λhm=>by rw[List.contains_iff_mem.2 hm]at hiD;cases hiD) fuel listed a w (Region.free_spec hi hf) (by simpa using hr) (.inl ⟨hw,λw _=>hy w⟩) hS h
theorem aG(i:Nat){oi:Oper}{v:Value}{fuel:Nat}{listed:Array Bool}{a:Act}{w:World}(hi:ops[i]?=some oi)
  (hk:(Region.noSelect ops&&Region.free md ops listed i&&(Region.ready md ops listed).contains i&&!D.contains i)=true)
  (hQ:∀ c a w,Q (.panic c) (a.put oi.dst v) w->Q (.panic c) a w) (hS:noneOf D (listed.setIfInBounds i true)=true->S w) (hw:Region.wanted oi (yielded ops a.tmps)=true) (hy:∀ w,(execOp a.eval oi).run P w=.ok (.value v) w)
  (h:wpAnyL P md ops Q S D fuel (listed.setIfInBounds i true) (a.put oi.dst v) w):wpAnyL P md ops Q S D (fuel+1) listed a w:=by
 simp only[xX,Bool.not_eq_true']at hk;exact Ei i hi hk.1.1.1 hk.1.1.2 hk.1.2 hk.2 hQ hS hw hy h
theorem aB(i:Nat){o:Oper}{fuel:Nat}{listed:Array Bool}{a:Act}{w:World}(hr:Region.ready md ops listed=[i])(ho:ops[i]?=some o)
  (h:∀ K':Act->World->Prop,Shut (∀ a w,(noneOf D (listed.setIfInBounds i true)=true->S w)->wpAnyL P md ops Q S D fuel (listed.setIfInBounds i true) a w->K' a w)->if Region.wanted o (yielded ops a.tmps)=true then Oper.wp P o a w K' Q else K' (a.put o.dst undef) w) :
  wpAnyL P md ops Q S D (fuel+1) listed a w :=
 ⟨(λh0=>by rw[hr]at h0;cases h0),λj hj=>by
  rw[hr]at hj;obtain rfl:=List.mem_singleton.1 hj;exact wpOp_step ho (λK' hK=>h K' (λa w hS hW=>hK a w ⟨hS,hW⟩))⟩
theorem aV{listed:Array Bool}{a:Act}{w:World}(hr:Region.ready md ops listed=[])(h:Q .normal a w):∀ fuel,wpAnyL P md ops Q S D fuel listed a w
 |0=>⟨hr,h⟩
 |_+1=>⟨λ_=>h,by rw[hr];simp⟩
theorem aO(S:World->Prop)(D:List Nat){id:Nat}{a:Act}{w:World}(hm:P.follows .mixedOrders=true)(hS:S w.drew)
  (h:S w.drew->wpAnyL P .any ops (NoPanic Q) S D ops.size (Array.replicate ops.size false) a w.drew):(Code.region id ops true).wp P Q a w :=
 wp_region_noPanic (wp_region_any hm (zQ _ _ _ _ (h hS)))
end
section
open Go.BigFrame
namespace Lst
section
variable {P : Program} {ops : Array Oper} {Q : Exit -> Act -> World -> Prop} {md : Region.Mode} {S : World -> Prop}
theorem RY{z i:Nat}{oi:Oper}{v:Value}(hi:ops[i]?=some oi)(hsel:∀(j:Nat)(o:Oper) cs b,ops[j]?=some o->o.op≠.select cs b)
  (hQ:∀ c a w,Q (.panic c) (a.put oi.dst v) w->Q (.panic c) a w) (hL:lastB md ops z=true) (hiz:i<z) :
  ∀(fuel:Nat)(listed:Array Bool)(a:Act)(w:World),
   Shut md ops listed->noneOf [z] listed=true ->
   (∀ j oj,ops[j]?=some oj->j≠i->listed.getD j true=false->(∀ e∈oj.after,Region.binds md e=true->e.on≠i)->oi.apart ops oj=true) ->
   i∈Region.ready md ops listed->YieldsIf P ops S oi v a->S w ->
   wpAnyL P md ops Q S [z] fuel (listed.setIfInBounds i true) (a.put oi.dst v) w->wpAnyL P md ops Q S [z] (fuel+1) listed a w:=by
 intro fuel;induction fuel with
 |zero =>
  intro listed a w hs hD _ hr hy hS H;refine⟨λh=>(by rw[h]at hr;cases hr),λj hj=>?_⟩;by_cases hji:j=i
  ·subst hji;exact hy.wpOp hi hS ⟨λ_=>hS,H⟩
  ·have:=ready_mono hj hji
   rw[H.1]at this;cases this
 |succ fuel ih =>
  intro listed a w hs hD hfree hr hy hS H;refine⟨λh=>(by rw[h]at hr;cases hr),λj hj=>?_⟩;by_cases hji:j=i
  ·subst hji;exact hy.wpOp hi hS ⟨λ_=>hS,H⟩
  ·have h1:=H.2 j (ready_mono hj hji)
   obtain⟨hjun,oj,hoj,hall⟩:=mem_ready.1 hj;have hnot:∀ e∈oj.after,Region.binds md e=true->e.on≠i:=λe he hb heq=>by
    have h1:=hall e he hb;have h0:=(mem_ready.1 hr).1;rw[heq]at h1;rcases Nat.lt_or_ge i listed.size with h'|h'
    ·simp[h']at h0 h1;rw[h0]at h1;cases h1
    ·simp[Array.getElem?_eq_none h']at h1
   have h2:=wpOp_putIf hoj (hfree j oj hoj hji hjun hnot) (λcs b=>hsel i oi cs b hi) (λcs b=>hsel j oj cs b hoj) hQ hy h1;have hfree':∀ k ok,ops[k]?=some ok->k≠i->(listed.setIfInBounds j true).getD k true=false ->
     (∀ e∈ok.after,Region.binds md e=true->e.on≠i)->oi.apart ops ok=true:=λk ok hk hki hun hno=>by
    refine hfree k ok hk hki ?_ hno;by_cases hjk:j=k
    ·subst hjk;exact hjun
    ·rw[getD_set_ne true hjk]at hun;exact hun
   have hiD:i ∉ [z]:=by simp;omega
   have hjD:j ∉ [z]:=by
    intro hjz;simp at hjz;subst hjz;have h1:=hs.all hL hj i hiz;have h0:=(mem_ready.1 hr).1;have hls:i<listed.size:=by rw[hs.1];exact(Array.getElem?_eq_some_iff.1 hi).1
    simp[hls]at h0 h1;rw[h0]at h1;cases h1
   have hD':=fD hD hjD;refine wpOp_mono (λa' w' h3=>⟨λ_=>h3.2.1 (fD (fD hD hiD) hjD),ih (listed.setIfInBounds j true) a' w' (hs.next hj) hD' hfree' (ready_mono hr (Ne.symm hji)) h3.1 (h3.2.1 (fD (fD hD hiD) hjD)) ?_⟩) h2;rw[Array.setIfInBounds_comm _ _ hji];exact h3.2.2
def zY(md:Region.Mode)(ops:Array Oper)(listed:Array Bool):Bool:=decide (listed.size=ops.size)&&(List.range ops.size).all λj=>!listed.getD j false||match ops[j]? with
 |none=>true
 |some o=>o.after.all λe=>!Region.binds md e||listed.getD e.on false
theorem H9{listed:Array Bool}(h:zY md ops listed=true):Shut md ops listed:=by
 simp only[zY,xX,decide_eq_true_eq]at h;refine⟨h.1,λj o ho hj e he hb=>?_⟩;have h1:=List.all_eq_true.1 h.2 j (List.mem_range.2 (Array.getElem?_eq_some_iff.1 ho).1);rw[ho,hj]at h1;simp only[Bool.not_true,Bool.false_or]at h1;rw[Array.all_eq_true_iff_forall_mem]at h1;have h2:=h1 e he;rw[hb]at h2;simpa using h2
theorem kS(z i:Nat){oi:Oper}{v:Value}{fuel:Nat}{listed:Array Bool}{a:Act}{w:World}(hi:ops[i]?=some oi)
  (hs:Region.noSelect ops=true) (hf:Region.free md ops listed i=true) (hr:(Region.ready md ops listed).contains i=true) (hL:lastB md ops z=true) (hz:(decide (i<z)&&noneOf [z] listed)=true) (hsh:zY md ops listed=true)
  (hQ:∀ c a w,Q (.panic c) (a.put oi.dst v) w->Q (.panic c) a w) (hS:S w) (hw:Region.wanted oi (yielded ops a.tmps)=true) (hy:∀ w,S w->(execOp a.eval oi).run P w=.ok (.value v) w)
  (h:wpAnyL P md ops Q S [z] fuel (listed.setIfInBounds i true) (a.put oi.dst v) w):wpAnyL P md ops Q S [z] (fuel+1) listed a w:=by
 simp only[xX,decide_eq_true_eq]at hz;exact RY hi (Region.noSelect_spec hs) hQ hL hz.1 fuel listed a w (H9 hsh) hz.2 (Region.free_spec hi hf) (by simpa using hr) (.inl ⟨hw,hy⟩) hS h
theorem two(i j:Nat){oi oj:Oper}{D:List Nat}{fuel:Nat}{listed:Array Bool}{a:Act}{w:World}(hr:Region.ready md ops listed=[i,j])(hoi:ops[i]?=some oi)(hoj:ops[j]?=some oj)
  (h1:∀ K':Act->World->Prop,Go.Shut (∀ a w,(noneOf D (listed.setIfInBounds i true)=true->S w)->wpAnyL P md ops Q S D fuel (listed.setIfInBounds i true) a w->K' a w)->if Region.wanted oi (yielded ops a.tmps)=true then Oper.wp P oi a w K' Q else K' (a.put oi.dst undef) w)
  (h2:∀ K':Act->World->Prop,Go.Shut (∀ a w,(noneOf D (listed.setIfInBounds j true)=true->S w)->wpAnyL P md ops Q S D fuel (listed.setIfInBounds j true) a w->K' a w)->if Region.wanted oj (yielded ops a.tmps)=true then Oper.wp P oj a w K' Q else K' (a.put oj.dst undef) w) :
  wpAnyL P md ops Q S D (fuel+1) listed a w :=
 ⟨(λh0=>by rw[hr]at h0;cases h0),λk hk=>by
  rw[hr]at hk;rcases List.mem_cons.1 hk with rfl|hk
  ·exact wpOp_step hoi (λK' hK=>h1 K' (λa w hS hW=>hK a w ⟨hS,hW⟩))
  ·obtain rfl:=List.mem_singleton.1 hk
   exact wpOp_step hoj (λK' hK=>h2 K' (λa w hS hW=>hK a w ⟨hS,hW⟩))⟩
end
end Lst
end
