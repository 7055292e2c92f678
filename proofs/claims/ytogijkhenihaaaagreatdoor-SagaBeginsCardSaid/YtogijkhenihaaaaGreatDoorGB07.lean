import Derived.Test.YtogijkhenihaaaaGreatDoorGB06
import Derived.Sort.CutIn
import Derived.Maps.OwnOps
import Derived.Maps.Views
set_option linter.all false
set_option maxRecDepth 100000
set_option maxHeartbeats 0
namespace Go.Proofs.YtogijkhenihaaaaGreatDoor
open Lib (hid)
open Go.RowKit
namespace Chk
abbrev Flt:=Option (ByteArray × Nat)
def cells:Flt->Array Value
 |none=>#[.bool false,.string ⟨#[]⟩,.int .i64 0]
 |some (wh,e)=>#[.bool true,.string wh,.int .i64 e]
def Fb(w:World)(b:Nat)(f:Flt):Prop:=Bk w b 88 (cells f)
def at_(right:Bool)(wh:ByteArray)(e:Nat)(f:Flt):Flt:=if right then f else match f with
 |none=>some (wh,e)
 |some p=>some p
end Chk
theorem QD(b:Nat)(right:Bool)(wh:ByteArray)(e:Nat)(f:Chk.Flt)(w:World)(h:Chk.Fb w b f) :
  Calls Tryz.prog 104 #[.pointer (some ⟨b,0,none⟩),.bool right,.string wh,.int .i64 e] w λx w'=>x=.returned (.tuple #[])/\w.grownBy w' (some b)/\Chk.Fb w' b (Chk.at_ right wh e f):=by
 unfold Chk.Fb at h;cases right
 ·cases f with
  |none =>
   have hq:Bk w b 88 #[.bool false,.string ⟨#[]⟩,.int .i64 0]:=h;obtain⟨⟨c0,c1,c2⟩,f0,f1,f2⟩:=hq.k3;go_enter Tryz.func104,Tryz.ntmps104;go_wp2_with fail;refine bodyPost_end (results_none rfl _ _ _) rfl ?_;have h1:=oP (p:=⟨b,0,none⟩) (nG w (some b)) (.inl rfl) (.bool true);have h2:=oP (p:=⟨b,1,none⟩) h1 (.inl rfl) (.string wh);have h3:=oP (p:=⟨b,2,none⟩) h2 (.inl rfl) (.int .i64 e);have q3:=((hq.aA 0 (.bool true)).aA 1 (.string wh)).aA 2 (.int .i64 e);exact⟨rfl,h3,q3⟩
  |some p =>
   obtain⟨q,n⟩:=p;have hq:Bk w b 88 #[.bool true,.string q,.int .i64 n]:=h;obtain⟨⟨c0,c1,c2⟩,f0,f1,f2⟩:=hq.k3;go_enter Tryz.func104,Tryz.ntmps104;go_wp2_with fail;refine bodyPost_end (results_none rfl _ _ _) rfl ?_;exact⟨rfl,nG w _,hq⟩
 ·go_enter Tryz.func104,Tryz.ntmps104
  go_wp2_with fail;refine bodyPost_end (results_none rfl _ _ _) rfl ?_;exact⟨rfl,nG w _,h⟩
section
open Go.BigFrame
theorem au{W W1:World}{T:TypeId}{cs:Array Value}(h:W1=W.alloc (.cells cs T)):Below W.heap.size W W1/\Bk W1 W.heap.size T cs/\W1.heap.size=W.heap.size+1:=by
 subst h;exact⟨(Below.refl _ W).alloc (xB _) _,Bk.new W T cs,by simp⟩
theorem aj{P:Program}{c:Code}{Q:Exit->Act->World->Prop}{a:Act}{w:World}(h:∀ w1,w1=w->c.wp P Q a w1):c.wp P Q a w:=h w rfl
namespace Chk
open Id
def part(a b:ByteArray):ByteArray:=a++⟨#[46]⟩++b
def nth(g:ByteArray)(i:Nat):ByteArray:=part g ⟨(Lib.decDigits i).toArray⟩
def contrary(e:ByteArray):ByteArray:=if e.toList=fO.toList then fK else if e.toList=fK.toList then fO else if e.toList=fM.toList then fM else⟨#[]⟩
def only(t:List Srt)(k:Nat):Bool:=match t with
 |[x]=>x.kind==k
 |_=>false
end Chk
theorem dD(a b:ByteArray)(ha:a.size<=10000)(hb:b.size<=10000)(w:World) :
  Calls Tryz.prog 108 #[.string a,.string b] w λe w'=>e=.returned (.string (Chk.part a b))/\w'=w:=by
 have h1:(9223372036854775807<a.size+1)=False:=by simp;omega
 have h2:(9223372036854775807<a.size+1+b.size)=False:=by simp;omega
 unfold Chk.part;go_enter Tryz.func108,Tryz.ntmps108;go_wp2_with fail;go_ret;exact⟨rfl,rfl⟩
theorem mV(g:ByteArray)(i:Nat)(hg:g.size<=10000)(hi:i<100)(w:World) :
  Calls Tryz.prog 114 #[.string g,.int .i64 i] w λe w'=>e=.returned (.string (Chk.nth g i))/\w'=w:=by
 have hs:(⟨(Lib.decDigits i).toArray⟩:ByteArray).size<=10000:=by
  have:∀ j:Fin 100,(⟨(Lib.decDigits j.1).toArray⟩:ByteArray).size<=10000:=by decide +kernel
  exact this ⟨i,hi⟩
 go_enter Tryz.func114,Tryz.ntmps114;go_wp2_with fail;refine(Tryz.strconv_Itoa_small i hi _).mono ?_;rintro e w1⟨rfl,rfl⟩;go_wp2_with fail;refine(dD g _ hg hs _).mono ?_;rintro e w2⟨rfl,rfl⟩;go_wp2_with fail;go_ret;exact⟨rfl,rfl⟩
theorem qU(x:ByteArray)(w:World) :
  Calls Tryz.prog 111 #[.string x] w λe w'=>e=.returned (.string (Chk.contrary x))/\w'=w:=by
 have k1:Id.fO.toList=[103,105,118,101]:=by decide +kernel
 have k2:Id.fK.toList=[116,97,107,101]:=by decide +kernel
 have k3:Id.fM.toList=[110,111,116,101]:=by decide +kernel
 unfold Chk.contrary;rw[k1,k2,k3];go_enter Tryz.func111,Tryz.ntmps111;go_wp2_with fail;all_goals(go_ret;refine⟨?_,rfl⟩)
 all_goals((repeat(rename (∀(a:Act)(w:World),Code.wp _ _ _ a w->_)=>HKx;clear HKx));(repeat(rename (Act->World->Prop)=>HKx;clear HKx));(repeat(rename (Exit->Act->World->Prop)=>HKx;clear HKx)))
 all_goals(simp_all[Id.fO,Id.fK,Id.fM])
theorem D8(v:Value)(t:List Id.Srt)(k:Nat)(hk:k<256)(w:World)(hv:Id.bG w none v t) :
  Calls Tryz.prog 174 #[v,.int .u8 k] w λe w'=>e=.returned (.bool (Chk.only t k))/\w'=w:=by
 obtain⟨A,c,rfl,h1,h2,_⟩:=ah.slice hv;rcases t with _|⟨⟨xk,xn⟩,_|⟨y,t⟩⟩
 ·go_enter Tryz.func174,Tryz.ntmps174
  go_wp2_with fail;go_ret;exact⟨rfl,rfl⟩
 ·obtain⟨g,off,cs,rfl,_,e1,hc⟩:=ah.get hv (i:=0) (by simp) (by omega)
  unfold Id.gU Id.Srt.cells at e1;subst e1;have a0:=hc 0 _ rfl;simp only[Nat.zero_mul,xK,List.getElem_cons_zero]at a0;clear hc hv;simp only[xJ,xO,Nat.zero_add];go_enter Tryz.func174,Tryz.ntmps174;go_wp2_with fail;go_ret;refine⟨?_,rfl⟩;unfold Chk.only;refine congrArg (λb=>Ending.returned (.bool b)) ?_;rw[Bool.eq_iff_iff];simp only[beq_iff_eq];omega
 ·simp only[xJ]
  generalize t.length=n at *;have hf:((n:Int)+1+1==1)=false:=by rw[xG];omega
  clear hv;go_enter Tryz.func174,Tryz.ntmps174;go_wp2_with fail;go_ret;exact⟨rfl,rfl⟩
theorem Id.MR:(Tryz.prog.info? 176).map (λi=>(i.zero,i.size,i.bytes))=some (some (.agg #[.string ByteArray.empty,.slice none 0 0]),2,40):=by kernel_rfl
theorem Id.J4:(Tryz.prog.info? 44).map (λi=>(i.zero,i.size,i.bytes))=some (some (.agg #[.int .u8 0,.string ByteArray.empty]),2,24):=by kernel_rfl
theorem Id.MQ:(Tryz.prog.info? 184).map (λi=>(i.zero,i.size,i.bytes))=some (some (.agg #[.string ByteArray.empty,.string ByteArray.empty,.int .i64 0]),3,40):=by kernel_rfl
theorem qN(W:World)(T:TypeId)(size:Nat):(W.alloc (.cells #[] T)).ownsRow W.heap.size T size (.slice (some ⟨W.heap.size,0,none⟩) 0 0) 0 [] :=
 ⟨by simp,.inr ⟨W.heap.size,0,#[],rfl,xB _,heap_alloc_new W _,xB _,by simp,by simp,by simp⟩⟩
theorem Kv(W:World):Sem.run Tryz.prog (binOp .eql 40 (.slice none 0 0) (.slice none 0 0)) W=.ok (.bool true) W:=by kernel_rfl
theorem Ku(ad:Addr)(n c:Nat)(W:World):Sem.run Tryz.prog (binOp .eql 40 (.slice (some ad) n c) (.slice none 0 0)) W=.ok (.bool false) W:=by kernel_rfl
theorem Ky{α:Type}(E:World->List Value->α->Prop)(hone:∀ w cs x,E w cs x->∀ u∈cs,u.oneCell'=true)(A:Option Addr)(n c:Nat)(l:List α)(hl:l.length<=10000)(w:World)(hE:∀ w',Below w.heap.size w w'->∀ cs x,E w cs x->E w' cs x)(hr:ah w none 176 2 E (.slice A n c) l) :
  Calls Tryz.prog 176 #[.slice A n c] w λe w'=>∃ v',e=.returned v'/\Below w.heap.size w w'/\ah w' (some w.heap.size) 176 2 E v' l:=by
 obtain⟨A',c',e,h1,h2,h3⟩:=ah.slice hr;injection e with e1 e2 e3
 subst e1 e2 e3;cases A with
 |none =>
  obtain⟨h4,rfl⟩:=h3 rfl;obtain rfl:l=[]:=List.length_eq_zero_iff.1 h4;have heq:=Kv;go_enter Tryz.func176,Tryz.ntmps176;go_wp2_with fail;go_ret;exact⟨_,rfl,Below.refl _ _,ah.nil _ _ _ _ _⟩
 |some ad =>
  obtain⟨css,k1,k2,k3,k4⟩:=hr;obtain⟨A',c',e',g1,g2,g3,g4⟩:=k3.slice;injection e' with e1 e2 e3
  subst e1 e3;have HL:Hid (css.flatten.length=l.length * 2):=hid (by rw[lM k2,k1]);have HS:Hid (∀ j u,css.flatten[j]?=some u->(w.alloc (.cells #[] 176)).cell? (ad.add j)=some u):=hid (λj u hu=>by
   have hj:j<css.flatten.length:=(List.getElem?_eq_some_iff.1 hu).1;obtain⟨g,off,e4,hc⟩:=g4 (by omega);injection e4 with e4
   subst e4;have ha:(⟨g,off,none⟩:Addr).add j=⟨g,off+j,none⟩:=by simp[Addr.add]
   rw[ha];have hh:=hc j u hu;exact(((Below.refl w.heap.size w).alloc (xB _) (.cells #[] 176)).cell (xH w _ hh)).trans hh)
  have HO:Hid (∀ u∈css.flatten,u.oneCell'=true):=hid (λu hu=>by
   obtain⟨cs,hcs,hu'⟩:=List.mem_flatten.1 hu;obtain⟨i,hi',rfl⟩:=List.getElem_of_mem hcs;exact hone _ _ _ (k4 i hi' (by omega)) u hu')
  have HK:=hid k4;have HK1:=hid k1;have HK2:=hid k2;clear k3 k4 g4 g3 h3 k1 k2;have heq:=Ku;go_enter Tryz.func176,Tryz.ntmps176;go_wp2_with(at_builtin;go_must(refine kG rfl (.tmp 5) (.tmp 6) _ rfl w.heap.size 176 _ 2 40 Tryz.underlying40 Id.MR rfl (by decide) _ 0 [] rfl (qN _ _ _) _ l.length c css.flatten rfl (λe=>by cases e) HL.out (λad' had=>by injection had with had;subst had;exact HS.out) HO.out (by simp only[maxLen];omega) (by omega) (by simp) ?_);intro v' w' hown hg hb);go_ret;rw[Nat.zero_add,yI]at hown;have hb':=((Below.refl w.heap.size w).alloc (xB _) (.cells #[] 176)).trans hb;exact⟨_,rfl,hb',css,HK1.out,HK2.out,hown,λi h h'=>hE _ hb' _ _ (HK.out i h h')⟩
theorem JZ(W:World):Sem.run Tryz.prog (binOp .eql 45 (.slice none 0 0) (.slice none 0 0)) W=.ok (.bool true) W:=by kernel_rfl
theorem JY(ad:Addr)(n c:Nat)(W:World):Sem.run Tryz.prog (binOp .eql 45 (.slice (some ad) n c) (.slice none 0 0)) W=.ok (.bool false) W:=by kernel_rfl
theorem Ko{α:Type}(E:World->List Value->α->Prop)(hone:∀ w cs x,E w cs x->∀ u∈cs,u.oneCell'=true)(A:Option Addr)(n c:Nat)(l:List α)(hl:l.length<=10000)(w:World)(hE:∀ w',Below w.heap.size w w'->∀ cs x,E w cs x->E w' cs x)(hr:ah w none 44 2 E (.slice A n c) l) :
  Calls Tryz.prog 177 #[.slice A n c] w λe w'=>∃ v',e=.returned v'/\Below w.heap.size w w'/\ah w' (some w.heap.size) 44 2 E v' l:=by
 obtain⟨A',c',e,h1,h2,h3⟩:=ah.slice hr;injection e with e1 e2 e3
 subst e1 e2 e3;cases A with
 |none =>
  obtain⟨h4,rfl⟩:=h3 rfl;obtain rfl:l=[]:=List.length_eq_zero_iff.1 h4;have heq:=JZ;go_enter Tryz.func177,Tryz.ntmps177;go_wp2_with fail;go_ret;exact⟨_,rfl,Below.refl _ _,ah.nil _ _ _ _ _⟩
 |some ad =>
  obtain⟨css,k1,k2,k3,k4⟩:=hr;obtain⟨A',c',e',g1,g2,g3,g4⟩:=k3.slice;injection e' with e1 e2 e3
  subst e1 e3;have HL:Hid (css.flatten.length=l.length * 2):=hid (by rw[lM k2,k1]);have HS:Hid (∀ j u,css.flatten[j]?=some u->(w.alloc (.cells #[] 44)).cell? (ad.add j)=some u):=hid (λj u hu=>by
   have hj:j<css.flatten.length:=(List.getElem?_eq_some_iff.1 hu).1;obtain⟨g,off,e4,hc⟩:=g4 (by omega);injection e4 with e4
   subst e4;have ha:(⟨g,off,none⟩:Addr).add j=⟨g,off+j,none⟩:=by simp[Addr.add]
   rw[ha];have hh:=hc j u hu;exact(((Below.refl w.heap.size w).alloc (xB _) (.cells #[] 44)).cell (xH w _ hh)).trans hh)
  have HO:Hid (∀ u∈css.flatten,u.oneCell'=true):=hid (λu hu=>by
   obtain⟨cs,hcs,hu'⟩:=List.mem_flatten.1 hu;obtain⟨i,hi',rfl⟩:=List.getElem_of_mem hcs;exact hone _ _ _ (k4 i hi' (by omega)) u hu')
  have HK:=hid k4;have HK1:=hid k1;have HK2:=hid k2;clear k3 k4 g4 g3 h3 k1 k2;have heq:=JY;go_enter Tryz.func177,Tryz.ntmps177;go_wp2_with(at_builtin;go_must(refine kG rfl (.tmp 5) (.tmp 6) _ rfl w.heap.size 44 _ 2 24 Tryz.underlying45 Id.J4 rfl (by decide) _ 0 [] rfl (qN _ _ _) _ l.length c css.flatten rfl (λe=>by cases e) HL.out (λad' had=>by injection had with had;subst had;exact HS.out) HO.out (by simp only[maxLen];omega) (by omega) (by simp) ?_);intro v' w' hown hg hb);go_ret;rw[Nat.zero_add,yI]at hown;have hb':=((Below.refl w.heap.size w).alloc (xB _) (.cells #[] 44)).trans hb;exact⟨_,rfl,hb',css,HK1.out,HK2.out,hown,λi h h'=>hE _ hb' _ _ (HK.out i h h')⟩
theorem Kr(W:World):Sem.run Tryz.prog (binOp .eql 103 (.slice none 0 0) (.slice none 0 0)) W=.ok (.bool true) W:=by kernel_rfl
theorem Kq(ad:Addr)(n c:Nat)(W:World):Sem.run Tryz.prog (binOp .eql 103 (.slice (some ad) n c) (.slice none 0 0)) W=.ok (.bool false) W:=by kernel_rfl
theorem Kt{α:Type}(E:World->List Value->α->Prop)(hone:∀ w cs x,E w cs x->∀ u∈cs,u.oneCell'=true)(A:Option Addr)(n c:Nat)(l:List α)(hl:l.length<=10000)(w:World)(hE:∀ w',Below w.heap.size w w'->∀ cs x,E w cs x->E w' cs x)(hr:ah w none 184 3 E (.slice A n c) l) :
  Calls Tryz.prog 187 #[.slice A n c] w λe w'=>∃ v',e=.returned v'/\Below w.heap.size w w'/\ah w' (some w.heap.size) 184 3 E v' l:=by
 obtain⟨A',c',e,h1,h2,h3⟩:=ah.slice hr;injection e with e1 e2 e3
 subst e1 e2 e3;cases A with
 |none =>
  obtain⟨h4,rfl⟩:=h3 rfl;obtain rfl:l=[]:=List.length_eq_zero_iff.1 h4;have heq:=Kr;go_enter Tryz.func187,Tryz.ntmps187;go_wp2_with fail;go_ret;exact⟨_,rfl,Below.refl _ _,ah.nil _ _ _ _ _⟩
 |some ad =>
  obtain⟨css,k1,k2,k3,k4⟩:=hr;obtain⟨A',c',e',g1,g2,g3,g4⟩:=k3.slice;injection e' with e1 e2 e3
  subst e1 e3;have HL:Hid (css.flatten.length=l.length * 3):=hid (by rw[lM k2,k1]);have HS:Hid (∀ j u,css.flatten[j]?=some u->(w.alloc (.cells #[] 184)).cell? (ad.add j)=some u):=hid (λj u hu=>by
   have hj:j<css.flatten.length:=(List.getElem?_eq_some_iff.1 hu).1;obtain⟨g,off,e4,hc⟩:=g4 (by omega);injection e4 with e4
   subst e4;have ha:(⟨g,off,none⟩:Addr).add j=⟨g,off+j,none⟩:=by simp[Addr.add]
   rw[ha];have hh:=hc j u hu;exact(((Below.refl w.heap.size w).alloc (xB _) (.cells #[] 184)).cell (xH w _ hh)).trans hh)
  have HO:Hid (∀ u∈css.flatten,u.oneCell'=true):=hid (λu hu=>by
   obtain⟨cs,hcs,hu'⟩:=List.mem_flatten.1 hu;obtain⟨i,hi',rfl⟩:=List.getElem_of_mem hcs;exact hone _ _ _ (k4 i hi' (by omega)) u hu')
  have HK:=hid k4;have HK1:=hid k1;have HK2:=hid k2;clear k3 k4 g4 g3 h3 k1 k2;have heq:=Kq;go_enter Tryz.func187,Tryz.ntmps187;go_wp2_with(at_builtin;go_must(refine kG rfl (.tmp 5) (.tmp 6) _ rfl w.heap.size 184 _ 3 40 Tryz.underlying103 Id.MQ rfl (by decide) _ 0 [] rfl (qN _ _ _) _ l.length c css.flatten rfl (λe=>by cases e) HL.out (λad' had=>by injection had with had;subst had;exact HS.out) HO.out (by simp only[maxLen];omega) (by omega) (by simp) ?_);intro v' w' hown hg hb);go_ret;rw[Nat.zero_add,yI]at hown;have hb':=((Below.refl w.heap.size w).alloc (xB _) (.cells #[] 184)).trans hb;exact⟨_,rfl,hb',css,HK1.out,HK2.out,hown,λi h h'=>hE _ hb' _ _ (HK.out i h h')⟩
theorem iV{fn:Func}{p u:Tmp}{ty:TypeId}(h:fn.results=#[.cell p ty,.tmp u])(tmps:Array Value)(P:Program)(w:World) :
  (results fn tmps).run P w=((asAddr (tmps.getD p undef)).run P w).andThen λa w₁=>((loadVar ty a).run P w₁).andThen λx w₂=>.ok (.tuple #[x,tmps.getD u undef]) w₂:=by
 simp only[results,h];simp[Sem.run_bind,Result.andThen]
namespace Chk
open Id
def find(s:Sch)(n:ByteArray):Option Rec:=s.records.find? (λr=>r.name.toList==n.toList)
def meth(s:Sch)(sv m:ByteArray):Option Mth:=match s.services.find? (λv=>v.name.toList==sv.toList)with
 |none=>none
 |some v=>v.methods.find? (λx=>x.name.toList==m.toList)
def gq(s:Sch)(n:ByteArray):Option Sag:=s.sagas.find? (λg=>g.name.toList==n.toList)
def qL:Rec:=⟨⟨#[]⟩,false,[]⟩
def oz:Mth:=⟨⟨#[]⟩,⟨#[]⟩,0,⟨#[]⟩,⟨#[]⟩⟩
def oq:Sag:=⟨⟨#[]⟩,⟨#[]⟩,[]⟩
def Pn(w:World)(B:Option Nat)(v:Value)(r:Rec):Prop:=∃ u,v=.agg #[.string r.name,.bool r.choice,u]/\jC w B u r.fields
def xw(w:World)(B:Option Nat)(v:Value)(g:Sag):Prop:=∃ u,v=.agg #[.string g.name,.string g.arg,u]/\ah w B 184 3 dU u g.steps
def rV(x:Mth):Value:=.agg #[.string x.name,.string x.arg,.int .u8 x.result,.string x.effect,.string x.undo]
theorem ku{α:Type}(p:α->Bool){l:List α}{k:Nat}(h:k<l.length):(l.drop k).find? p=if p l[k]=true then some l[k]else(l.drop (k+1)).find? p:=by
 rw[xQ h,List.find?_cons];cases p l[k]<;>rfl
theorem kC{α:Type}(p:α->Bool){l:List α}{k:Nat}(h:l.length<=k):(l.drop k).find? p=none:=by
 rw[xP h];rfl
theorem Dq{v':Value}:∀(css:List (List Value))(_:∀ cs∈css,cs.length=2) (i:Nat) (hi:i<css.length) (a:Value),css[i][0]?=some a->css.flatten.set (i * 2+1) v'=(css.set i [a,v']).flatten
 |[],_,i,hi,_,_=>absurd hi (by simp)
 |c::css,h,0,_,a,ha=>by
  have hc:=h c (by simp);match c,hc with
  |[x,y],_=>simp at ha;subst ha;rfl
 |c::css,h,i+1,hi,a,ha=>by
  have hc:=h c (by simp);match c,hc with
  |[x,y],_ =>
   have ih:=Dq (v':=v') css (λcs hcs=>h cs (by simp[hcs])) i (by simpa using hi) a ha;rw[show(i+1) * 2+1=i * 2+1+2 from by omega];simp only[List.flatten_cons,List.cons_append,yI,xC,ih]
def o9(i:Nat)(w0 w:World)(v:Value)(l:List Fld):Prop :=
 ∃ css:List (List Value),css.length=l.length/\w.ownsRow w0.heap.size 176 2 v l.length css.flatten/\∀ j (h:j<css.length)(h':j<l.length),∃ u,css[j]=[.string l[j].name,u]/\(j<i->bG w (some w0.heap.size) u l[j].type)/\(i<=j->bG w0 none u l[j].type)
theorem zJ{i:Nat}{w0 w:World}{l:List Fld}{css:List (List Value)}(hl:css.length=l.length)(h:∀ j (h:j<css.length)(h':j<l.length),∃ u,css[j]=[.string l[j].name,u]/\(j<i->bG w (some w0.heap.size) u l[j].type)/\(i<=j->bG w0 none u l[j].type)):∀ cs∈css,cs.length=2:=λcs hcs=>by
 obtain⟨j,hj,rfl⟩:=List.getElem_of_mem hcs;obtain⟨u,e,_⟩:=h j hj (by omega);rw[e];rfl
theorem o9.start{w0 w:World}{v:Value}{l:List Fld}(h:ah w (some w0.heap.size) 176 2 (λ_ cs x=>gJ none w0 cs x) v l):o9 0 w0 w v l:=by
 obtain⟨css,h1,h2,h3,h4⟩:=h;refine⟨css,h1,h3,λj h h'=>?_⟩;obtain⟨u,e,hs⟩:=h4 j h h';exact⟨u,e,(λhh=>absurd hh (Nat.not_lt_zero _)),λ_=>hs⟩
theorem o9.done{w0 w:World}{v:Value}{l:List Fld}(h:o9 l.length w0 w v l):jC w (some w0.heap.size) v l:=by
 obtain⟨css,h1,h2,h3⟩:=h;refine⟨css,h1,zJ h1 h3,h2,λj h h'=>?_⟩;obtain⟨u,e,hs,_⟩:=h3 j h h';exact⟨u,e,hs h'⟩
theorem o9.slice{i:Nat}{w0 w:World}{v:Value}{l:List Fld}(h:o9 i w0 w v l):∃ A c,v=.slice A l.length c:=by
 obtain⟨css,h1,h2,h3⟩:=h;obtain⟨A,c,e,_⟩:=Lie.Au h2;exact⟨A,c,e⟩
theorem o9.get{i c:Nat}{A:Option Addr}{w0 w:World}{l:List Fld}(h:o9 i w0 w (.slice A l.length c) l)(hi:i<l.length) :
  ∃ g u,A=some ⟨g,0,none⟩/\w0.heap.size<=g/\g<w.heap.size/\w.cell? ⟨g,i * 2+1,none⟩=some u/\w.frozen? ⟨g,i * 2+1,none⟩=false/\bG w0 none u l[i].type:=by
 obtain⟨css,h1,h2,h3⟩:=h;have h2':=h2;obtain⟨hl,hv|⟨g,cap,cur,hv,hb,hg,hn,hc,hcs,ht⟩⟩:=h2'
 ·obtain⟨e,hx⟩:=hv
  injection e with e1 e2 e3
  omega
 ·injection hv with e1 e2 e3
  subst e1 e3;obtain⟨u,e,_,hs⟩:=h3 i (by omega) hi;obtain⟨_,hfr,_,_⟩:=Ib h2 (i * 2+1) (by omega) u;have hlt:g<w.heap.size:=(Array.getElem?_eq_some_iff.1 hg).1;obtain⟨A',c',e',OL,_⟩:=Lie.Au h2;injection e' with e1 e2 e3
  subst e1;obtain⟨g',off,e4,hcl⟩:=OL (by omega);injection e4 with e4
  injection e4 with e4 e5
  subst e4 e5;have:=hcl (i * 2+1) u (by rw[uF (zJ h1 h3) (show i<css.length by omega) 1 (by omega),e];rfl);rw[Nat.zero_add]at this;exact⟨g,u,rfl,hb,hlt,this,hfr,hs (xB _)⟩
theorem o9.step{i g n cap:Nat}{w0 w w2:World}{v':Value}{l:List Fld}(h:o9 i w0 w (.slice (some ⟨g,0,none⟩) n cap) l)(hi:i<l.length)(hb:Below w.heap.size w w2)(hbase:w0.heap.size<=w.heap.size)(hs:bG w2 (some w.heap.size) v' l[i].type) :
  o9 (i+1) w0 (w2.setCell ⟨g,i * 2+1,none⟩ v') (.slice (some ⟨g,0,none⟩) n cap) l:=by
 obtain⟨css,h1,h2,h3⟩:=h;have h2w:w2.ownsRow w0.heap.size 176 2 (.slice (some ⟨g,0,none⟩) n cap) l.length css.flatten:=(mW.below (B:=some w0.heap.size) h2 hb);have hn:n=l.length:=by
  obtain⟨A',c',e',_⟩:=Lie.Au h2;injection e' with _ e2 _
 subst hn;obtain⟨hr,_,_,_⟩:=Ib h2w (i * 2+1) (by omega) v';obtain⟨u,e,_,_⟩:=h3 i (by omega) hi;rw[Dq css (zJ h1 h3) i (by omega) (.string l[i].name) (by rw[e];rfl)]at hr;have hbk:∃ cs fr,w2.heap[g]?=some (.cells cs 176 fr):=by
  obtain⟨_,hv|⟨g',cap',cur,hv,hb',hg',_⟩⟩:=h2w
  ·cases hv.1
  ·injection hv with e1 _ _
   injection e1 with e1
   injection e1 with e1
   subst e1;exact⟨_,_,hg'⟩
 obtain⟨cs0,fr0,hbk⟩:=hbk;have ho:Only 176 w2 (w2.setCell ⟨g,i * 2+1,none⟩ v'):=Only.set hbk _ _;have tr:∀{b u l},bG w2 (some b) u l->bG (w2.setCell ⟨g,i * 2+1,none⟩ v') (some b) u l:=λhx=>Srt.OZ (T:=[44]) (ho.kp _ (by decide)) (xB _) (by decide) hx
 refine⟨css.set i [.string l[i].name,v'],by simpa using h1,hr,λj hj hj'=>?_⟩;by_cases hji:j=i
 ·subst hji
  refine⟨v',by simp,(λ_=>?_),λhh=>by omega⟩;exact tr (ah.mono hs (λ_ _ hr=>hr.weak (λb' e'=>by injection e' with e';exact⟨_,rfl,by omega⟩)) (λ_ _ h=>h))
 ·obtain⟨u',e',ha,hb'⟩:=h3 j (by simpa using hj) hj'
  refine⟨u',by rw[List.getElem_set_ne (Ne.symm hji)];exact e',(λhh=>?_),λhh=>hb' (by omega)⟩;exact tr (ah.below (ha (by omega)) hb (λ_ _ h=>h))
end Chk
structure Chk.Look(w wr:World)(T:TypeId)(z:Array Value):Prop where
 bel:Below w.heap.size w wr
 blk:Bk wr (w.heap.size+1) T z
 size:w.heap.size+2<=wr.heap.size
theorem Chk.Look.below{w wr w':World}{T:TypeId}{z:Array Value}(h:Chk.Look w wr T z)(hb:Below wr.heap.size wr w'):Chk.Look w w' T z :=
 ⟨h.bel.trans (hb.mono h.bel.size),h.blk.below hb h.blk.lt,xM h.size hb.size⟩
theorem Fa{W:World}{base size n g:Nat}{t e:TypeId}{v:Value}{xs:List Value}{cs:Array Value}(h:W.ownsRow base e size v n xs)(hb:Bk W g t cs)(ht:t≠e):v.ownBlock≠some g:=by
 rcases h.2 with⟨rfl,_⟩|⟨g',cap,cur,rfl,_,hg,_⟩
 ·simp[Value.ownBlock]
 ·intro e'
  simp[Value.ownBlock]at e';subst e';unfold Bk at hb;rw[hb]at hg;injection hg with hg
  injection hg with _ h2
  exact ht h2
theorem Id.gJ.one{B:Option Nat}{w:World}(cs:List Value)(x:Id.Fld)(h:Id.gJ B w cs x):∀ u∈cs,u.oneCell'=true:=by
 obtain⟨u,rfl,hs⟩:=h;obtain⟨_,_,_,rfl⟩:=ah.is hs;simp[Value.oneCell']
theorem Id.gU.one{w:World}(cs:List Value)(x:Id.Srt)(h:Id.gU w cs x):∀ u∈cs,u.oneCell'=true:=by
 unfold Id.gU Id.Srt.cells at h;subst h;simp[Value.oneCell']
theorem Id.dU.one{w:World}(cs:List Value)(x:Id.Stp)(h:Id.dU w cs x):∀ u∈cs,u.oneCell'=true:=by
 unfold Id.dU Id.Stp.cells at h;subst h;simp[Value.oneCell']
theorem um(v:Value)(x:Id.Sch)(name:ByteArray)(hF:∀ r∈x.records,r.fields.length<=10000/\∀ f∈r.fields,f.type.length<=10000)(w:World)(hv:Id.ay w none v x) :
  Calls Tryz.prog 121 #[v,.string name] w λe w'=>∃ u,e=.returned (.tuple #[u,.bool (Chk.find x name).isSome])/\Below w.heap.size w w'/\Chk.Pn w' (some w.heap.size) u ((Chk.find x name).getD Chk.qL):=by
 obtain⟨R,HR⟩:∃ R,Hid (Chk.find x name=R):=⟨_,hid rfl⟩;rw[HR.out];obtain⟨A1,n1,c1,A2,n2,c2,A3,n3,c3,rfl,r1,_,_⟩:=hv;have HF:=hid hF;unfold Chk.find at HR;generalize x.records=rs at *;generalize x.name=xn at *;have hn1:n1=rs.length:=by obtain⟨_,_,e,_⟩:=ah.slice r1;injection e
 have hm1:n1<=9223372036854775807:=by obtain⟨_,_,e,_,_⟩:=ah.slice r1;injection e;omega
 have HN:=hid hn1;have H1:=hid r1;clear r1 hF hn1;go_enter Tryz.func121,Tryz.ntmps121;go_upto_region 1 with(fail)
 refine aj (λW0 hW0=>?_);have HL0:Hid (Chk.Look w W0 42 #[.string ⟨#[]⟩,.bool false,.slice none 0 0]):=hid (by
  subst hW0;refine⟨((Below.refl _ _).alloc (xB _) _).alloc (by simp) _,?_,by simp⟩;have:=Bk.new (w.alloc (.cells #[.string xn,.slice A1 n1 c1,.slice A2 n2 c2,.slice A3 n3 c3] 28)) 42 #[.string ⟨#[]⟩,.bool false,.slice none 0 0];rw[World.size_alloc]at this;exact this)
 have q0:Bk W0 w.heap.size 28 #[.string xn,.slice A1 n1 c1,.slice A2 n2 c2,.slice A3 n3 c3]:=by subst hW0;exact(Bk.new w _ _).alloc _
 clear hW0;obtain⟨⟨q1,q2,q3,q4⟩,_⟩:=q0.k4;clear q0;go_wp2_with fail;clear q1 q2 q3 q4;go_loopw [13] (λi wr=>∃ k:Nat,k<=n1/\i=.int .i64 k/\Hid ((rs.drop k).find? (λr=>r.name.toList==name.toList)=R)/\Hid (Chk.Look w wr 42 #[.string ⟨#[]⟩,.bool false,.slice none 0 0])) (λi _=>n1 - (intOf i).toNat)
 case atStart=>exact⟨0,by omega,rfl,HR,HL0⟩
 case round =>
  obtain⟨k,hk,rfl,HK,HL⟩:=hrel;obtain⟨Wk,rfl⟩:∃ w',w'=wr:=⟨_,rfl⟩;by_cases hlt:k<n1
  case neg =>
   obtain rfl:k=n1:=by omega
   have HE:Hid (R=none):=hid (by rw[<-HK.out];exact Chk.kC _ (by rw[HN.out];exact xB _));have hbk:=HL.out.blk;obtain⟨⟨z0,z1,z2⟩,zf0,zf1,zf2⟩:=hbk.k3;go_wp2_with fail;have h1:=((hbk.aA 0 (.string ⟨#[]⟩)).aA 1 (.bool false)).aA 2 (.slice none 0 0);have hb:=((HL.out.bel.setCell (p:=⟨w.heap.size+1,0,none⟩) (by simp) (.string ⟨#[]⟩)).setCell (p:=⟨w.heap.size+1,1,none⟩) (by simp) (.bool false)).setCell (p:=⟨w.heap.size+1,2,none⟩) (by simp) (.slice none 0 0);refine bodyPost_ret (v:=.tuple #[.agg #[.string ⟨#[]⟩,.bool false,.slice none 0 0],.bool false]) ?_ rfl ⟨_,by rw[HE.out];rfl,hb,by rw[HE.out];exact⟨_,rfl,ah.nil _ _ _ _ _⟩⟩;clear z0 z1 z2 zf0 zf1 zf2;obtain⟨⟨y0,y1,y2⟩,_⟩:=h1.k3;rw[iV rfl];go_simp;try rfl
  have hka:k<rs.length:=by rw[<-HN.out];exact hlt
  obtain⟨g,off,cs,rfl,_,⟨u,rfl,HU⟩,hc⟩:=ah.get H1.out hka (by omega);have HD:=HK.out;rw[Chk.ku _ hka]at HD;have hHF:=HF.out rs[k] (xR _);generalize rs[k]=r at *;obtain⟨rn,rc,rf⟩:=r;simp only at HU hHF hc HD;have hB:=HL.out.bel;have a0:=hc 0 _ rfl;have a1:=hc 1 _ rfl;have a2:=hc 2 _ rfl;have hgl:g<w.heap.size:=xH w _ a0;have a0:=(hB.cell hgl).trans a0;have a1:=(hB.cell hgl).trans a1;have a2:=(hB.cell hgl).trans a2;simp only[xK]at a0;have i0:(0:Int)<=(k:Int):=by omega
  have i1:(k:Int)<(n1:Int):=by omega
  obtain⟨A5,n5,c5,rfl⟩:=ah.is HU;have hbw:=HL.out.size;have hgw:¬g=Wk.heap.size:=by omega
  have HGL:=hid hgl;have HHF:=hid hHF;have HD2:=hid HD;have HU2:=hid HU;clear hc hB HD HK hka HU hHF;go_upto_region 4 with(fail)
  refine aj (λW1 hW1=>?_);obtain⟨hb1,hq1,hs1⟩:=au hW1;clear hW1;have HL1:=hid (HL.out.below hb1);have HQ1:=hid hq1;have HS1:=hid hs1;clear hb1 hs1 a0 a1 a2;obtain⟨⟨b0,b1,b2⟩,_⟩:=hq1.k3;clear hq1;cases hn:(rn.toList==name.toList)
  case false =>
   have HK1:Hid (List.find? (λr=>r.name.toList==name.toList) (List.drop (k+1) rs)=R):=hid (by rw[<-HD2.out];simp[hn]);go_wp2_with fail;go_roundw
   case rel=>exact⟨k+1,by omega,by go_num,HK1,HL1⟩
   case measure=>simp[intOf];omega
  have HE:Hid (R=some ⟨rn,rc,rf⟩):=hid (by rw[<-HD2.out];simp[hn]);have HFc:Hid (ah W1 none 176 2 (λ_ cs x=>Id.gJ none w cs x) (.slice A5 n5 c5) rf):=hid (ah.mono HU2.out (λ_ _ hr=>hr.below HL1.out.bel) (λ_ _ h=>h));go_wp2_with fail;refine(Ky (λ_ cs x=>Id.gJ none w cs x) (λ_ cs x=>Id.gJ.one cs x) A5 n5 c5 rf HHF.out.1 W1 (λ_ _ _ _ h=>h) HFc.out).mono ?_;rintro e W2⟨fv,rfl,hb2,hr2⟩;have HL2:=hid (HL1.out.below hb2);have HQ2:=hid (HQ1.out.below hb2 HQ1.out.lt);have hfl:Chk.o9 0 w W2 fv rf:=Chk.o9.start (ah.mono hr2 (λ_ _ hr=>hr.weak (λb' e'=>by injection e' with e';exact⟨_,rfl,by have:=HL1.out.size;omega⟩)) (λ_ _ h=>h));obtain⟨A6,c6,rfl⟩:=hfl.slice;obtain⟨n6,hn6⟩:∃ n6,n6=rf.length:=⟨_,rfl⟩;have Ux:n6<=10000:=by rw[hn6];exact HHF.out.1
  rw[<-hn6]at hfl ⊢;have HN6:=hid hn6;have HFL:=hid hfl;clear hb2 hr2 hfl hn6 b0 b1 b2;go_wp2_with fail;go_loopw [26] (λi w3=>∃ j:Nat,j<=n6/\i=.int .i64 j/\Hid (Chk.Look w w3 42 #[.string ⟨#[]⟩,.bool false,.slice none 0 0])/\Hid (Bk w3 Wk.heap.size 42 #[.string rn,.bool rc,.slice A5 n5 c5])/\Hid (Chk.o9 j w w3 (.slice A6 n6 c6) rf)) (λi _=>n6 - (intOf i).toNat)
  case atStart=>exact⟨0,by omega,rfl,HL2,HQ2,HFL⟩
  case round =>
   obtain⟨j,hj,rfl,HL3,HQ3,HF3⟩:=hrel;obtain⟨W3,rfl⟩:∃ w',w'=wr:=⟨_,rfl⟩;by_cases hjl:j<n6
   case neg =>
    obtain rfl:j=n6:=by omega
    obtain⟨⟨b0,b1,b2⟩,bf0,bf1,bf2⟩:=HQ3.out.k3;obtain⟨⟨z0,z1,z2⟩,zf0,zf1,zf2⟩:=HL3.out.blk.k3;have hne:¬Wk.heap.size=w.heap.size+1:=by omega
    have hne':¬w.heap.size+1=Wk.heap.size:=by omega
    have HFF:Hid (Id.jC W3 (some w.heap.size) (.slice A6 j c6) rf):=hid (Chk.o9.done (by have:=HF3.out;rw[HN6.out]at this;rw[HN6.out];exact this));go_upto_region 12 with(fail)
    clear b0 b1 b2 z0 z1 z2;have hr1:Bk _ Wk.heap.size 42 #[.string rn,.bool rc,.slice A6 j c6]:=HQ3.out.aA 2 (.slice A6 j c6);have hz1:=HL3.out.blk.far (p:=⟨Wk.heap.size,2,none⟩) hne' (.slice A6 j c6);have hb1:=HL3.out.bel.setCell (p:=⟨Wk.heap.size,2,none⟩) (by show w.heap.size<=Wk.heap.size;omega) (.slice A6 j c6);have hf1:Id.jC (W3.setCell ⟨Wk.heap.size,2,none⟩ (.slice A6 j c6)) (some w.heap.size) (.slice A6 j c6) rf:=ah.kp HFF.out ((Only.set HQ3.out 2 (.slice A6 j c6)).kp w.heap.size (T:=[176,44]) (by decide)) (xB _) (by decide) (Id.gJ.kp ((Only.set HQ3.out 2 (.slice A6 j c6)).kp w.heap.size (T:=[176,44]) (by decide)) (xB _) (by decide));generalize W3.setCell ⟨Wk.heap.size,2,none⟩ (.slice A6 j c6)=W4 at *;obtain⟨⟨b0,b1,b2⟩,_⟩:=hr1.k3;obtain⟨⟨z0,z1,z2⟩,zf0,zf1,zf2⟩:=hz1.k3;go_wp2_with fail;clear z0 z1 z2 zf0 zf1 zf2;have h1:=((hz1.aA 0 (.string rn)).aA 1 (.bool rc)).aA 2 (.slice A6 j c6);have hb:=((hb1.setCell (p:=⟨w.heap.size+1,0,none⟩) (by simp) (.string rn)).setCell (p:=⟨w.heap.size+1,1,none⟩) (by simp) (.bool rc)).setCell (p:=⟨w.heap.size+1,2,none⟩) (by simp) (.slice A6 j c6);have hon:=((Only.set hz1 0 (.string rn)).trans (Only.set (hz1.aA 0 (.string rn)) 1 (.bool rc))).trans (Only.set ((hz1.aA 0 (.string rn)).aA 1 (.bool rc)) 2 (.slice A6 j c6));have hf2:=ah.kp hf1 (hon.kp w.heap.size (T:=[176,44]) (by decide)) (xB _) (by decide) (Id.gJ.kp (hon.kp w.heap.size (T:=[176,44]) (by decide)) (xB _) (by decide));obtain⟨⟨y0,y1,y2⟩,_⟩:=h1.k3;refine bodyPost_ret (v:=.tuple #[.agg #[.string rn,.bool rc,.slice A6 j c6],.bool true]) ?_ rfl ⟨_,by rw[HE.out];rfl,hb,by rw[HE.out];exact⟨_,rfl,hf2⟩⟩;rw[iV rfl];go_simp;try rfl
   have hjf:j<rf.length:=by rw[<-HN6.out];exact hjl
   have hfl:=HF3.out;rw[HN6.out]at hfl;obtain⟨g6,u,rfl,hg1,hg2,d1,df1,hsu⟩:=hfl.get hjf;rw[<-HN6.out]at hfl;have Px:=hid hfl;have HG2:=hid hg2;obtain⟨A7,n7,c7,rfl⟩:=ah.is hsu;have HC:Hid (Calls Tryz.prog 177 #[.slice A7 n7 c7] W3 λe w'=>∃ v',e=.returned v'/\Below W3.heap.size W3 w'/\ah w' (some W3.heap.size) 44 2 Id.gU v' rf[j].type):=hid (Ko Id.gU (λ_ cs x=>Id.gU.one cs x) A7 n7 c7 rf[j].type (HHF.out.2 _ (xR _)) W3 (λ_ _ _ _ h=>h) (ah.below hsu HL3.out.bel (λ_ _ h=>h)));have i2:(0:Int)<=(j:Int):=by omega
   have i3:(j:Int)<(n6:Int):=by omega
   have RJ:¬g6=Wk.heap.size:=λe=>by
    subst e;obtain⟨css,_,ho,_⟩:=Px.out;exact absurd (Bk.cell HQ3.out 0) (by
     intro _;have h9:=Fa ho HQ3.out (by decide);simp[Value.ownBlock]at h9)
   have Ui:=hid RJ;have RI:¬g6=w.heap.size+1:=λe=>by
    subst e;obtain⟨css,_,ho,_⟩:=Px.out;exact absurd (Bk.cell HL3.out.blk 0) (by
     intro _;have h9:=Fa ho HL3.out.blk (by decide);simp[Value.ownBlock]at h9)
   have Uh:=hid RI;clear hfl hsu RJ RI hg2;go_wp2_with fail;refine HC.out.mono ?_;rintro e W4⟨v',rfl,hb4,hr4⟩;obtain⟨A8,n8,c8,rfl⟩:=ah.is hr4;have d2:=(hb4.cell (p:=⟨g6,j * 2+1,none⟩) HG2.out).trans d1;have df2:=(hb4.frozen (p:=⟨g6,j * 2+1,none⟩) HG2.out).trans df1;have HF5:=hid (Px.out.step hjf hb4 HL3.out.bel.size hr4);have HL5:Hid (Chk.Look w (W4.setCell ⟨g6,j * 2+1,none⟩ (.slice A8 n8 c8)) 42 #[.string ⟨#[]⟩,.bool false,.slice none 0 0]):=hid (by
    have h:=HL3.out.below hb4;exact⟨h.bel.setCell (p:=⟨g6,j * 2+1,none⟩) hg1 _,h.blk.far (by simp;exact λe=>Uh.out e.symm) _,by simpa[World.setCell]using h.size⟩)
   have HQ5:Hid (Bk (W4.setCell ⟨g6,j * 2+1,none⟩ (.slice A8 n8 c8)) Wk.heap.size 42 #[.string rn,.bool rc,.slice A5 n5 c5]):=hid ((HQ3.out.below hb4 HQ3.out.lt).far (by simp;exact λe=>Ui.out e.symm) _);clear hb4 hr4 d1 df1;go_wp2_with fail;go_roundw
   case rel=>exact⟨j+1,by omega,by go_num,HL5,HQ5,HF5⟩
   case measure=>simp[intOf];omega
theorem qx(v:Value)(x:Id.Sch)(sv name:ByteArray)(w:World)(hv:Id.ay w none v x) :
  Calls Tryz.prog 113 #[v,.string sv,.string name] w λe w'=>e=.returned (.tuple #[Chk.rV ((Chk.meth x sv name).getD Chk.oz),.bool (Chk.meth x sv name).isSome])/\Below w.heap.size w w':=by
 obtain⟨R,HR⟩:∃ R,Hid (Chk.meth x sv name=R):=⟨_,hid rfl⟩;rw[HR.out];obtain⟨A1,n1,c1,A2,n2,c2,A3,n3,c3,rfl,_,r1,_⟩:=hv;unfold Chk.meth at HR;generalize x.services=rs at *;generalize x.name=xn at *;have hn1:n2=rs.length:=by obtain⟨_,_,e,_⟩:=ah.slice r1;injection e
 have hm1:n2<=9223372036854775807:=by obtain⟨_,_,e,_,_⟩:=ah.slice r1;injection e;omega
 have HN:=hid hn1;have H1:=hid r1;clear r1 hn1;go_enter Tryz.func113,Tryz.ntmps113;go_upto_region 1 with(fail)
 refine aj (λW0 hW0=>?_);have HL0:Hid (Chk.Look w W0 180 #[.string ⟨#[]⟩,.string ⟨#[]⟩,.int .u8 0,.string ⟨#[]⟩,.string ⟨#[]⟩]):=hid (by
  subst hW0;refine⟨((Below.refl _ _).alloc (xB _) _).alloc (by simp) _,?_,by simp⟩;have:=Bk.new (w.alloc (.cells #[.string xn,.slice A1 n1 c1,.slice A2 n2 c2,.slice A3 n3 c3] 28)) 180 #[.string ⟨#[]⟩,.string ⟨#[]⟩,.int .u8 0,.string ⟨#[]⟩,.string ⟨#[]⟩];rw[World.size_alloc]at this;exact this)
 have q0:Bk W0 w.heap.size 28 #[.string xn,.slice A1 n1 c1,.slice A2 n2 c2,.slice A3 n3 c3]:=by subst hW0;exact(Bk.new w _ _).alloc _
 clear hW0;obtain⟨⟨q1,q2,q3,q4⟩,_⟩:=q0.k4;clear q0;go_wp2_with fail;clear q1 q2 q3 q4;go_loopw [15] (λi wr=>∃ k:Nat,k<=n2/\i=.int .i64 k/\Hid ((match (rs.drop k).find? (λv=>v.name.toList==sv.toList)with|none=>none|some v=>v.methods.find? (λx=>x.name.toList==name.toList))=R)/\Hid (Chk.Look w wr 180 #[.string ⟨#[]⟩,.string ⟨#[]⟩,.int .u8 0,.string ⟨#[]⟩,.string ⟨#[]⟩])) (λi _=>n2 - (intOf i).toNat)
 case atStart=>exact⟨0,by omega,rfl,HR,HL0⟩
 case round =>
  obtain⟨k,hk,rfl,HK,HL⟩:=hrel;obtain⟨Wk,rfl⟩:∃ w',w'=wr:=⟨_,rfl⟩;by_cases hlt:k<n2
  case neg =>
   obtain rfl:k=n2:=by omega
   have HE:Hid (R=none):=hid (by rw[<-HK.out,Chk.kC _ (by rw[HN.out];exact xB _)]);have hbk:=HL.out.blk;obtain⟨⟨z0,z1,z2,z3,z4⟩,zf0,zf1,zf2,zf3,zf4⟩:=hbk.k5;go_wp2_with fail;(clear z0 z1 z2 z3 z4 zf0 zf1 zf2 zf3 zf4;have h1:=((((hbk.aA 0 (.string ⟨#[]⟩)).aA 1 (.string ⟨#[]⟩)).aA 2 (.int .u8 0)).aA 3 (.string ⟨#[]⟩)).aA 4 (.string ⟨#[]⟩);obtain⟨⟨y0,y1,y2,y3,y4⟩,_⟩:=h1.k5;refine bodyPost_ret (v:=.tuple #[.agg #[.string ⟨#[]⟩,.string ⟨#[]⟩,.int .u8 0,.string ⟨#[]⟩,.string ⟨#[]⟩],.bool false]) ?_ rfl ⟨by rw[HE.out];rfl,(by have hz0:=(by first|exact HL3.out.bel|exact HL.out.bel);exact((((hz0.setCell (p:=⟨w.heap.size+1,0,none⟩) (by simp) (.string ⟨#[]⟩)).setCell (p:=⟨w.heap.size+1,1,none⟩) (by simp) (.string ⟨#[]⟩)).setCell (p:=⟨w.heap.size+1,2,none⟩) (by simp) (.int .u8 0)).setCell (p:=⟨w.heap.size+1,3,none⟩) (by simp) (.string ⟨#[]⟩)).setCell (p:=⟨w.heap.size+1,4,none⟩) (by simp) (.string ⟨#[]⟩))⟩;rw[iV rfl];go_simp;try rfl)
  have hka:k<rs.length:=by rw[<-HN.out];exact hlt
  obtain⟨g,off,cs,rfl,_,⟨u,rfl,HU⟩,hc⟩:=ah.get H1.out hka (by omega);have HD:=HK.out;rw[Chk.ku _ hka]at HD;generalize rs[k]=r at *;obtain⟨rn,rf⟩:=r;simp only at HU hc HD;have hB:=HL.out.bel;have a0:=hc 0 _ rfl;have a1:=hc 1 _ rfl;have hgl:g<w.heap.size:=xH w _ a0;have a0:=(hB.cell hgl).trans a0;have a1:=(hB.cell hgl).trans a1;simp only[xK]at a0;have i0:(0:Int)<=(k:Int):=by omega
  have i1:(k:Int)<(n2:Int):=by omega
  obtain⟨A5,n5,c5,rfl⟩:=ah.is HU;have hn5:n5=rf.length:=by obtain⟨_,_,e,_⟩:=ah.slice HU;injection e
  have hm5:n5<=9223372036854775807:=by obtain⟨_,_,e,_,_⟩:=ah.slice HU;injection e;omega
  have hbw:=HL.out.size;have hgw:¬g=Wk.heap.size:=by omega
  have HN5:=hid hn5;have HGL:=hid hgl;have HD2:=hid HD;have HU2:=hid HU;clear hc hB HD HK hka HU hn5;go_upto_region 4 with(fail)
  refine aj (λW1 hW1=>?_);obtain⟨hb1,hq1,hs1⟩:=au hW1;clear hW1;have HL1:=hid (HL.out.below hb1);have HQ1:=hid hq1;have HS1:=hid hs1;clear hb1 hs1 a0 a1;obtain⟨⟨b0,b1⟩,_⟩:=hq1.k2;clear hq1;cases hn:(rn.toList==sv.toList)
  case false =>
   have HK1:Hid ((match (rs.drop (k+1)).find? (λv=>v.name.toList==sv.toList)with|none=>none|some v=>v.methods.find? (λx=>x.name.toList==name.toList))=R):=hid (by rw[<-HD2.out];simp[hn]);go_wp2_with fail;go_roundw
   case rel=>exact⟨k+1,by omega,by go_num,HK1,HL1⟩
   case measure=>simp[intOf];omega
  have HE0:Hid (rf.find? (λx=>x.name.toList==name.toList)=R):=hid (by rw[<-HD2.out];simp[hn]);go_wp2_with fail;clear b0 b1;go_loopw [26] (λi wr=>∃ j:Nat,j<=n5/\i=.int .i64 j/\Hid ((rf.drop j).find? (λx=>x.name.toList==name.toList)=R)/\Hid (Chk.Look w wr 180 #[.string ⟨#[]⟩,.string ⟨#[]⟩,.int .u8 0,.string ⟨#[]⟩,.string ⟨#[]⟩])) (λi _=>n5 - (intOf i).toNat)
  case atStart=>exact⟨0,by omega,rfl,HE0,HL1⟩
  case round =>
   obtain⟨j,hj,rfl,HK3,HL3⟩:=hrel;obtain⟨W3,rfl⟩:∃ w',w'=wr:=⟨_,rfl⟩;by_cases hjl:j<n5
   case neg =>
    obtain rfl:j=n5:=by omega
    have HE:Hid (R=none):=hid (by rw[<-HK3.out,Chk.kC _ (by rw[HN5.out];exact xB _)]);have hbk:=HL3.out.blk;obtain⟨⟨z0,z1,z2,z3,z4⟩,zf0,zf1,zf2,zf3,zf4⟩:=hbk.k5;go_wp2_with fail;(clear z0 z1 z2 z3 z4 zf0 zf1 zf2 zf3 zf4;have h1:=((((hbk.aA 0 (.string ⟨#[]⟩)).aA 1 (.string ⟨#[]⟩)).aA 2 (.int .u8 0)).aA 3 (.string ⟨#[]⟩)).aA 4 (.string ⟨#[]⟩);obtain⟨⟨y0,y1,y2,y3,y4⟩,_⟩:=h1.k5;refine bodyPost_ret (v:=.tuple #[.agg #[.string ⟨#[]⟩,.string ⟨#[]⟩,.int .u8 0,.string ⟨#[]⟩,.string ⟨#[]⟩],.bool false]) ?_ rfl ⟨by rw[HE.out];rfl,(by have hz0:=(by first|exact HL3.out.bel|exact HL.out.bel);exact((((hz0.setCell (p:=⟨w.heap.size+1,0,none⟩) (by simp) (.string ⟨#[]⟩)).setCell (p:=⟨w.heap.size+1,1,none⟩) (by simp) (.string ⟨#[]⟩)).setCell (p:=⟨w.heap.size+1,2,none⟩) (by simp) (.int .u8 0)).setCell (p:=⟨w.heap.size+1,3,none⟩) (by simp) (.string ⟨#[]⟩)).setCell (p:=⟨w.heap.size+1,4,none⟩) (by simp) (.string ⟨#[]⟩))⟩;rw[iV rfl];go_simp;try rfl)
   have hjf:j<rf.length:=by rw[<-HN5.out];exact hjl
   obtain⟨g5,Oz,cs5,rfl,_,e5,hc5⟩:=ah.get HU2.out hjf (by omega);have HD:=HK3.out;rw[Chk.ku _ hjf]at HD;generalize rf[j]=m at *;obtain⟨m0,m1,m2,m3,m4⟩:=m;unfold Id.dV Id.Mth.cells at e5;subst e5;simp only at HD hc5;have hB:=HL3.out.bel;have a0:=hc5 0 _ rfl;have a1:=hc5 1 _ rfl;have a2:=hc5 2 _ rfl;have a3:=hc5 3 _ rfl;have a4:=hc5 4 _ rfl;have hgl:g5<w.heap.size:=xH w _ a0;have a0:=(hB.cell hgl).trans a0;have a1:=(hB.cell hgl).trans a1;have a2:=(hB.cell hgl).trans a2;have a3:=(hB.cell hgl).trans a3;have a4:=(hB.cell hgl).trans a4;simp only[xK]at a0;have i2:(0:Int)<=(j:Int):=by omega
   have i3:(j:Int)<(n5:Int):=by omega
   have hbw3:=HL3.out.size;have U5:¬g5=W3.heap.size:=by omega
   have HD2:=hid HD;clear hc5 hB HD HK3 hjf;go_upto_region 8 with(fail)
   refine aj (λW4 hW4=>?_);obtain⟨hb4,hq4,hs4⟩:=au hW4;clear hW4;have HL4:=hid (HL3.out.below hb4);have hne:¬W3.heap.size=w.heap.size+1:=by omega
   clear hb4 hs4 a0 a1 a2 a3 a4;obtain⟨⟨b0,b1,b2,b3,b4⟩,_⟩:=hq4.k5;clear hq4;cases hn2:(m0.toList==name.toList)
   case false =>
    have HK1:Hid (List.find? (λx=>x.name.toList==name.toList) (List.drop (j+1) rf)=R):=hid (by rw[<-HD2.out];simp[hn2]);go_wp2_with fail;go_roundw
    case rel=>exact⟨j+1,by omega,by go_num,HK1,HL4⟩
    case measure=>simp[intOf];omega
   have HE:Hid (R=some ⟨m0,m1,m2,m3,m4⟩):=hid (by rw[<-HD2.out];simp[hn2]);have hbk:=HL4.out.blk;obtain⟨⟨z0,z1,z2,z3,z4⟩,zf0,zf1,zf2,zf3,zf4⟩:=hbk.k5;go_wp2_with fail;clear z0 z1 z2 z3 z4 zf0 zf1 zf2 zf3 zf4;have h1:=((((hbk.aA 0 (.string m0)).aA 1 (.string m1)).aA 2 (.int .u8 m2)).aA 3 (.string m3)).aA 4 (.string m4);have hb:=((((HL4.out.bel.setCell (p:=⟨w.heap.size+1,0,none⟩) (by simp) (.string m0)).setCell (p:=⟨w.heap.size+1,1,none⟩) (by simp) (.string m1)).setCell (p:=⟨w.heap.size+1,2,none⟩) (by simp) (.int .u8 m2)).setCell (p:=⟨w.heap.size+1,3,none⟩) (by simp) (.string m3)).setCell (p:=⟨w.heap.size+1,4,none⟩) (by simp) (.string m4);obtain⟨⟨y0,y1,y2,y3,y4⟩,_⟩:=h1.k5;refine bodyPost_ret (v:=.tuple #[.agg #[.string m0,.string m1,.int .u8 m2,.string m3,.string m4],.bool true]) ?_ rfl ⟨by rw[HE.out];rfl,hb⟩;rw[iV rfl];go_simp;try rfl
theorem D7(v:Value)(x:Id.Sch)(name:ByteArray)(hF:∀ r∈x.sagas,r.steps.length<=10000)(w:World)(hv:Id.ay w none v x) :
  Calls Tryz.prog 150 #[v,.string name] w λe w'=>∃ u,e=.returned (.tuple #[u,.bool (Chk.gq x name).isSome])/\Below w.heap.size w w'/\Chk.xw w' (some w.heap.size) u ((Chk.gq x name).getD Chk.oq):=by
 obtain⟨R,HR⟩:∃ R,Hid (Chk.gq x name=R):=⟨_,hid rfl⟩;rw[HR.out];obtain⟨A1,n1,c1,A2,n2,c2,A3,n3,c3,rfl,_,_,r1⟩:=hv;have HF:=hid hF;unfold Chk.gq at HR;generalize x.sagas=rs at *;generalize x.name=xn at *;have hn1:n3=rs.length:=by obtain⟨_,_,e,_⟩:=ah.slice r1;injection e
 have hm1:n3<=9223372036854775807:=by obtain⟨_,_,e,_,_⟩:=ah.slice r1;injection e;omega
 have HN:=hid hn1;have H1:=hid r1;clear r1 hF hn1;go_enter Tryz.func150,Tryz.ntmps150;go_upto_region 1 with(fail)
 refine aj (λW0 hW0=>?_);have HL0:Hid (Chk.Look w W0 105 #[.string ⟨#[]⟩,.string ⟨#[]⟩,.slice none 0 0]):=hid (by
  subst hW0;refine⟨((Below.refl _ _).alloc (xB _) _).alloc (by simp) _,?_,by simp⟩;have:=Bk.new (w.alloc (.cells #[.string xn,.slice A1 n1 c1,.slice A2 n2 c2,.slice A3 n3 c3] 28)) 105 #[.string ⟨#[]⟩,.string ⟨#[]⟩,.slice none 0 0];rw[World.size_alloc]at this;exact this)
 have q0:Bk W0 w.heap.size 28 #[.string xn,.slice A1 n1 c1,.slice A2 n2 c2,.slice A3 n3 c3]:=by subst hW0;exact(Bk.new w _ _).alloc _
 clear hW0;obtain⟨⟨q1,q2,q3,q4⟩,_⟩:=q0.k4;clear q0;go_wp2_with fail;clear q1 q2 q3 q4;go_loopw [11] (λi wr=>∃ k:Nat,k<=n3/\i=.int .i64 k/\Hid ((rs.drop k).find? (λr=>r.name.toList==name.toList)=R)/\Hid (Chk.Look w wr 105 #[.string ⟨#[]⟩,.string ⟨#[]⟩,.slice none 0 0])) (λi _=>n3 - (intOf i).toNat)
 case atStart=>exact⟨0,by omega,rfl,HR,HL0⟩
 case round =>
  obtain⟨k,hk,rfl,HK,HL⟩:=hrel;obtain⟨Wk,rfl⟩:∃ w',w'=wr:=⟨_,rfl⟩;by_cases hlt:k<n3
  case neg =>
   obtain rfl:k=n3:=by omega
   have HE:Hid (R=none):=hid (by rw[<-HK.out];exact Chk.kC _ (by rw[HN.out];exact xB _));have hbk:=HL.out.blk;obtain⟨⟨z0,z1,z2⟩,zf0,zf1,zf2⟩:=hbk.k3;go_wp2_with fail;have h1:=((hbk.aA 0 (.string ⟨#[]⟩)).aA 1 (.string ⟨#[]⟩)).aA 2 (.slice none 0 0);have hb:=((HL.out.bel.setCell (p:=⟨w.heap.size+1,0,none⟩) (by simp) (.string ⟨#[]⟩)).setCell (p:=⟨w.heap.size+1,1,none⟩) (by simp) (.string ⟨#[]⟩)).setCell (p:=⟨w.heap.size+1,2,none⟩) (by simp) (.slice none 0 0);refine bodyPost_ret (v:=.tuple #[.agg #[.string ⟨#[]⟩,.string ⟨#[]⟩,.slice none 0 0],.bool false]) ?_ rfl ⟨_,by rw[HE.out];rfl,hb,by rw[HE.out];exact⟨_,rfl,ah.nil _ _ _ _ _⟩⟩;clear z0 z1 z2 zf0 zf1 zf2;obtain⟨⟨y0,y1,y2⟩,_⟩:=h1.k3;rw[iV rfl];go_simp;try rfl
  have hka:k<rs.length:=by rw[<-HN.out];exact hlt
  obtain⟨g,off,cs,rfl,_,⟨u,rfl,HU⟩,hc⟩:=ah.get H1.out hka (by omega);have HD:=HK.out;rw[Chk.ku _ hka]at HD;have hHF:=HF.out rs[k] (xR _);generalize rs[k]=r at *;obtain⟨rn,rc,rf⟩:=r;simp only at HU hHF hc HD;have hB:=HL.out.bel;have a0:=hc 0 _ rfl;have a1:=hc 1 _ rfl;have a2:=hc 2 _ rfl;have hgl:g<w.heap.size:=xH w _ a0;have a0:=(hB.cell hgl).trans a0;have a1:=(hB.cell hgl).trans a1;have a2:=(hB.cell hgl).trans a2;simp only[xK]at a0;have i0:(0:Int)<=(k:Int):=by omega
  have i1:(k:Int)<(n3:Int):=by omega
  obtain⟨A5,n5,c5,rfl⟩:=ah.is HU;have hbw:=HL.out.size;have hgw:¬g=Wk.heap.size:=by omega
  have HGL:=hid hgl;have HHF:=hid hHF;have HD2:=hid HD;have HU2:=hid HU;clear hc hB HD HK hka HU hHF;go_upto_region 4 with(fail)
  refine aj (λW1 hW1=>?_);obtain⟨hb1,hq1,hs1⟩:=au hW1;clear hW1;have HL1:=hid (HL.out.below hb1);have HQ1:=hid hq1;have HS1:=hid hs1;clear hb1 hs1 a0 a1 a2;obtain⟨⟨b0,b1,b2⟩,_⟩:=hq1.k3;clear hq1;cases hn:(rn.toList==name.toList)
  case false =>
   have HK1:Hid (List.find? (λr=>r.name.toList==name.toList) (List.drop (k+1) rs)=R):=hid (by rw[<-HD2.out];simp[hn]);go_wp2_with fail;go_roundw
   case rel=>exact⟨k+1,by omega,by go_num,HK1,HL1⟩
   case measure=>simp[intOf];omega
  have HE:Hid (R=some ⟨rn,rc,rf⟩):=hid (by rw[<-HD2.out];simp[hn]);have HFc:Hid (ah W1 none 184 3 Id.dU (.slice A5 n5 c5) rf):=hid (ah.below HU2.out HL1.out.bel (λ_ _ h=>h));go_wp2_with fail;refine(Kt Id.dU (λ_ cs x=>Id.dU.one cs x) A5 n5 c5 rf HHF.out W1 (λ_ _ _ _ h=>h) HFc.out).mono ?_;rintro e W2⟨fv,rfl,hb2,hr2⟩;have HL2:=hid (HL1.out.below hb2);have hq2:=HQ1.out.below hb2 HQ1.out.lt;obtain⟨A6,n6,c6,rfl⟩:=ah.is hr2;have hrf:ah W2 (some w.heap.size) 184 3 Id.dU (.slice A6 n6 c6) rf:=ah.mono hr2 (λ_ _ hr=>hr.weak (λb' e'=>by injection e' with e';exact⟨_,rfl,by have:=HL1.out.size;omega⟩)) (λ_ _ h=>h);clear b0 b1 b2 hb2 hr2;obtain⟨⟨b0,b1,b2⟩,bf0,bf1,bf2⟩:=hq2.k3;have hz2:=HL2.out.blk;have hne:¬Wk.heap.size=w.heap.size+1:=by omega
  have hne':¬w.heap.size+1=Wk.heap.size:=by omega
  go_upto_region 6 with(fail)
  clear b0 b1 b2 bf0 bf1 bf2;have hr1:Bk _ Wk.heap.size 105 #[.string rn,.string rc,.slice A6 n6 c6]:=hq2.aA 2 (.slice A6 n6 c6);have hz1:=hz2.far (p:=⟨Wk.heap.size,2,none⟩) hne' (.slice A6 n6 c6);have hb1:=HL2.out.bel.setCell (p:=⟨Wk.heap.size,2,none⟩) (by show w.heap.size<=Wk.heap.size;omega) (.slice A6 n6 c6);have hf1:ah (W2.setCell ⟨Wk.heap.size,2,none⟩ (.slice A6 n6 c6)) (some w.heap.size) 184 3 Id.dU (.slice A6 n6 c6) rf:=ah.kp hrf ((Only.set hq2 2 (.slice A6 n6 c6)).kp w.heap.size (T:=[184]) (by decide)) (xB _) (by decide) Id.dU.kp;clear hq2 hz2 hrf;generalize W2.setCell ⟨Wk.heap.size,2,none⟩ (.slice A6 n6 c6)=W4 at *;obtain⟨⟨b0,b1,b2⟩,_⟩:=hr1.k3;obtain⟨⟨z0,z1,z2⟩,zf0,zf1,zf2⟩:=hz1.k3;go_wp2_with fail;clear z0 z1 z2 zf0 zf1 zf2;have h1:=((hz1.aA 0 (.string rn)).aA 1 (.string rc)).aA 2 (.slice A6 n6 c6);have hb:=((hb1.setCell (p:=⟨w.heap.size+1,0,none⟩) (by simp) (.string rn)).setCell (p:=⟨w.heap.size+1,1,none⟩) (by simp) (.string rc)).setCell (p:=⟨w.heap.size+1,2,none⟩) (by simp) (.slice A6 n6 c6);have hon:=((Only.set hz1 0 (.string rn)).trans (Only.set (hz1.aA 0 (.string rn)) 1 (.string rc))).trans (Only.set ((hz1.aA 0 (.string rn)).aA 1 (.string rc)) 2 (.slice A6 n6 c6));have hf2:=ah.kp hf1 (hon.kp w.heap.size (T:=[184]) (by decide)) (xB _) (by decide) Id.dU.kp;obtain⟨⟨y0,y1,y2⟩,_⟩:=h1.k3;refine bodyPost_ret (v:=.tuple #[.agg #[.string rn,.string rc,.slice A6 n6 c6],.bool true]) ?_ rfl ⟨_,by rw[HE.out];rfl,hb,by rw[HE.out];exact⟨_,rfl,hf2⟩⟩;rw[iV rfl];go_simp;try rfl
namespace Chk
open Id
def mid(x:Srt):Bool:=(x.kind==5||x.kind==6)&&x.name.toList.isEmpty
def fin(s:Sch)(x:Srt):Bool:=if x.kind=1∨x.kind=2∨x.kind=3∨x.kind=4 then x.name.toList.isEmpty else if x.kind=7 then(find s x.name).isSome else false
def okT(s:Sch):List Srt->Bool
 |[]=>false
 |[x]=>fin s x
 |x::y::l=>mid x&&okT s (y::l)
def right(s:Sch)(t:List Srt):Bool:=decide (t.length<=12)&&okT s t
def Small(x:Sch):Prop:=∀ r∈x.records,r.fields.length<=10000/\∀ f∈r.fields,f.type.length<=10000
theorem Fg{s:Sch}{t:List Srt}{k:Nat}(h:k+1<t.length):okT s (t.drop k)=(mid (t[k]'(by omega))&&okT s (t.drop (k+1))):=by
 rw[xQ (show k<t.length by omega),xQ h];rfl
theorem rQ{s:Sch}{t:List Srt}{k:Nat}(h:k+1=t.length):okT s (t.drop k)=fin s (t[k]'(by omega)):=by
 rw[xQ (show k<t.length by omega),xP (by omega)];rfl
end Chk
theorem JQ(v:Value)(x:Id.Sch)(tv:Value)(t:List Id.Srt)(hF:Chk.Small x)(w:World)(hv:Id.ay w none v x)(ht:Id.bG w none tv t) :
  Calls Tryz.prog 109 #[v,tv] w λe w'=>e=.returned (.bool (Chk.right x t))/\Below w.heap.size w w':=by
 obtain⟨R,HR⟩:∃ R,Hid (Chk.right x t=R):=⟨_,hid rfl⟩;rw[HR.out];unfold Chk.right at HR;have HV:=hid hv;obtain⟨A1,n1,c1,A2,n2,c2,A3,n3,c3,rfl,_⟩:=hv;obtain⟨A,c,rfl,hnc,hcm,_⟩:=ah.slice ht;have hbl:=(Below.refl w.heap.size w).alloc (xB _) (.cells #[.string x.name,.slice A1 n1 c1,.slice A2 n2 c2,.slice A3 n3 c3] 28);by_cases h0:t.length=0
 ·obtain rfl:t=[]:=List.length_eq_zero_iff.1 h0
  have HE:Hid (R=false):=hid (by rw[<-HR.out];rfl);clear ht;go_enter Tryz.func109,Tryz.ntmps109;go_wp2_with fail;go_ret;exact⟨(by first|(rw[HE.out];done)|(rw[HE.out];rfl)),hbl⟩
 obtain⟨m,hm⟩:∃ m,t.length=m+1:=⟨t.length - 1,by omega⟩;by_cases h12:t.length<=12
 case neg =>
  have HE:Hid (R=false):=hid (by rw[<-HR.out,decide_eq_false h12];rfl);rw[hm]at h12 ⊢;have hd:¬((m:Int)+1=0):=by omega
  have hd1:((m:Int)+1==0)=false:=by rw[xG];omega
  have hd2:12<m+1:=by omega
  have hd3:(12:Int)<(m:Int)+1:=by omega
  clear ht h12 h0 hm;go_enter Tryz.func109,Tryz.ntmps109;go_wp2_with fail;go_ret;exact⟨(by first|(rw[HE.out];done)|(rw[HE.out];rfl)),hbl⟩
 have HM:=hid hm;have HR0:Hid (Chk.okT x (t.drop 0)=R):=hid (by rw[<-HR.out,decide_eq_true h12];simp);have TN:m<12:=by omega
 have H1:=hid ht;rw[hm]at H1 hnc ⊢;clear ht h0 h12 hm;have hd1:((m:Int)+1==0)=false:=by rw[xG];omega
 have hd:¬((m:Int)+1=0):=by omega
 have hd2:¬(12<m+1):=by omega
 have hd3:¬(12:Int)<(m:Int)+1:=by omega
 have hd4:m<=c:=by omega
 have hd5:(m:Int)<=(c:Int):=by omega
 clear hbl;go_enter Tryz.func109,Tryz.ntmps109;go_upto_region 1 with(fail)
 refine aj (λW0 hW0=>?_);obtain⟨hb0,hq0,hs0⟩:=au hW0;clear hW0;have HQ0:=hid hq0;have HB0:=hid hb0;clear hb0 hs0 hq0;go_wp2_with fail;go_loopw [24] (λi wr=>∃ k:Nat,k<=m/\i=.int .i64 k/\Hid (Chk.okT x (t.drop k)=R)/\Hid (Below w.heap.size w wr)/\Hid (Bk wr w.heap.size 28 #[.string x.name,.slice A1 n1 c1,.slice A2 n2 c2,.slice A3 n3 c3])) (λi _=>m - (intOf i).toNat)
 case atStart=>exact⟨0,by omega,rfl,HR0,HB0,HQ0⟩
 case round =>
  obtain⟨k,hk,rfl,HK,HB,HQ⟩:=hrel;obtain⟨Wk,rfl⟩:∃ w',w'=wr:=⟨_,rfl⟩;have hka:k<t.length:=by rw[HM.out];omega
  obtain⟨g,off,cs,rfl,_,e1,hc⟩:=ah.get H1.out hka (by omega);have HKx:=HK.out;have hB:=HB.out;unfold Id.gU Id.Srt.cells at e1;subst e1;have a0:=hc 0 _ rfl;have a1:=hc 1 _ rfl;have hgl:g<w.heap.size:=xH w _ a0;have a0:=(hB.cell hgl).trans a0;have a1:=(hB.cell hgl).trans a1;simp only[xK]at a0;have hbs:=hB.size;have hgw:¬g=Wk.heap.size:=by omega
  have i0:(0:Int)<=(k:Int):=by omega
  clear hB hc;by_cases hlt:k<m
  case neg =>
   obtain rfl:k=m:=by omega
   rw[Chk.rQ (by rw[HM.out])]at HKx;generalize t[k]=y at *;obtain⟨yk,yn⟩:=y;have HD:=hid HKx;have i1:(k:Int)<(k:Int)+1:=by omega
   clear HKx HK hka;go_upto_region 10 with(fail)
   refine aj (λW1 hW1=>?_);obtain⟨hb1,hq1,hs1⟩:=au hW1;clear hW1;have HB1:=hid (HB.out.trans (hb1.mono hbs));have HQ1:=hid (HQ.out.below hb1 HQ.out.lt);obtain⟨⟨b0,b1⟩,_⟩:=hq1.k2;obtain⟨⟨q0,q1,q2,q3⟩,_⟩:=HQ1.out.k4;clear hq1 hb1 a0 a1;by_cases h1:yk=1
   ·subst h1
    have HE:Hid (R=yn.toList.isEmpty):=hid (by rw[<-HD.out];simp[Chk.fin]);go_wp2_with fail;go_ret;exact⟨(by first|(rw[HE.out];done)|(rw[HE.out];rfl)),HB1.out⟩
   by_cases h2:yk=2
   ·subst h2
    have HE:Hid (R=yn.toList.isEmpty):=hid (by rw[<-HD.out];simp[Chk.fin]);go_wp2_with fail;go_ret;exact⟨(by first|(rw[HE.out];done)|(rw[HE.out];rfl)),HB1.out⟩
   by_cases h3:yk=3
   ·subst h3
    have HE:Hid (R=yn.toList.isEmpty):=hid (by rw[<-HD.out];simp[Chk.fin]);go_wp2_with fail;go_ret;exact⟨(by first|(rw[HE.out];done)|(rw[HE.out];rfl)),HB1.out⟩
   by_cases h4:yk=4
   ·subst h4
    have HE:Hid (R=yn.toList.isEmpty):=hid (by rw[<-HD.out];simp[Chk.fin]);go_wp2_with fail;go_ret;exact⟨(by first|(rw[HE.out];done)|(rw[HE.out];rfl)),HB1.out⟩
   have t1:((yk:Int)==1)=false:=by rw[xG];omega
   have t2:((yk:Int)==2)=false:=by rw[xG];omega
   have t3:((yk:Int)==3)=false:=by rw[xG];omega
   have t4:((yk:Int)==4)=false:=by rw[xG];omega
   by_cases h7:yk=7
   ·subst h7
    have HE:Hid (R=(Chk.find x yn).isSome):=hid (by rw[<-HD.out];simp[Chk.fin]);go_wp2_with fail;refine(um _ x yn hF W1 (Id.ay.below HB1.out HV.out)).mono ?_;rintro e W2⟨u,rfl,hb2,hu⟩;have HB2:=hid (HB1.out.trans (hb2.mono HB1.out.size));obtain⟨u2,rfl,hu2⟩:=hu;obtain⟨A9,n9,c9,rfl⟩:=ah.is hu2;clear hb2 hu2;go_wp2_with fail;go_ret;exact⟨(by first|(rw[HE.out];done)|(rw[HE.out];rfl)),HB2.out.alloc HB2.out.size _⟩
   ·have HE:Hid (R=false):=hid (by rw[<-HD.out];simp[Chk.fin,h1,h2,h3,h4,h7])
    have t7:((yk:Int)==7)=false:=by rw[xG];omega
    clear h1 h2 h3 h4 h7;go_wp2_with fail;go_ret;exact⟨(by first|(rw[HE.out];done)|(rw[HE.out];rfl)),HB1.out⟩
  have i1:(k:Int)<(m:Int):=by omega
  rw[Chk.Fg (by rw[HM.out];omega)]at HKx;generalize t[k]=y at *;obtain⟨yk,yn⟩:=y;have HD:=hid HKx;clear HKx HK hka;go_upto_region 6 with(fail)
  refine aj (λW1 hW1=>?_);obtain⟨hb1,hq1,hs1⟩:=au hW1;clear hW1;have HB1:=hid (HB.out.trans (hb1.mono hbs));have HQ1:=hid (HQ.out.below hb1 HQ.out.lt);obtain⟨⟨b0,b1⟩,_⟩:=hq1.k2;clear hq1 hb1 a0 a1;cases hne:yn.toList.isEmpty
  case false =>
   have HE:Hid (R=false):=hid (by rw[<-HD.out];simp[Chk.mid,hne]);clear HD;go_wp2_with fail;all_goals(go_ret;exact⟨(by first|(rw[HE.out];done)|(rw[HE.out];rfl)),HB1.out⟩)
  by_cases h5:yk=5
  ·subst h5
   have HK1:Hid (Chk.okT x (t.drop (k+1))=R):=hid (by rw[<-HD.out];simp[Chk.mid,hne]);go_wp2_with fail;go_roundw
   case rel=>exact⟨k+1,by omega,by go_num,HK1,HB1,HQ1⟩
   case measure=>simp[intOf];omega
  by_cases h6:yk=6
  ·subst h6
   have HK1:Hid (Chk.okT x (t.drop (k+1))=R):=hid (by rw[<-HD.out];simp[Chk.mid,hne]);go_wp2_with fail;go_roundw
   case rel=>exact⟨k+1,by omega,by go_num,HK1,HB1,HQ1⟩
   case measure=>simp[intOf];omega
  have t5:((yk:Int) != 5)=true:=by rw[bne_iff_ne];omega
  have t6:((yk:Int) != 6)=true:=by rw[bne_iff_ne];omega
  have HE:Hid (R=false):=hid (by rw[<-HD.out];simp[Chk.mid,hne,h5,h6]);clear h5 h6;go_wp2_with fail;go_ret;exact⟨(by first|(rw[HE.out];done)|(rw[HE.out];rfl)),HB1.out⟩
namespace Chk
open Id
def ug(x:Fld):Bool:=x.name.toList==[97,99,99,111,117,110,116]&&only x.type 4
def uf(x:Fld):Bool:=x.name.toList==[97,109,111,117,110,116]&&only x.type 3
def Fe(r:Rec):Bool:=!r.choice&&r.fields.any ug&&r.fields.any uf
def order(s:Sch)(n:ByteArray):Bool:=match find s n with
 |none=>false
 |some r=>Fe r
theorem sG{α:Type}(p:α->Bool){l:List α}{k:Nat}(h:k<l.length):(l.drop k).any p=(p l[k]||(l.drop (k+1)).any p):=by
 rw[xQ h];rfl
theorem sH{α:Type}(p:α->Bool){l:List α}{k:Nat}(h:l.length<=k):(l.drop k).any p=false:=by
 rw[xP h];rfl
end Chk
theorem vW(v:Value)(x:Id.Sch)(name:ByteArray)(hF:Chk.Small x)(w:World)(hv:Id.ay w none v x) :
  Calls Tryz.prog 112 #[v,.string name] w λe w'=>e=.returned (.bool (Chk.order x name))/\Below w.heap.size w w':=by
 obtain⟨R,HR⟩:∃ R,Hid (Chk.order x name=R):=⟨_,hid rfl⟩;rw[HR.out];have HV:=hid hv;obtain⟨A1,n1,c1,A2,n2,c2,A3,n3,c3,rfl,_⟩:=hv;go_enter Tryz.func112,Tryz.ntmps112;go_upto_region 1 with(fail)
 refine aj (λW0 hW0=>?_);obtain⟨hb0,hq0,hs0⟩:=au hW0;clear hW0;have HB0:=hid hb0;obtain⟨⟨q0,q1,q2,q3⟩,_⟩:=hq0.k4;clear hb0 hs0 hq0;go_wp2_with fail;refine(um _ x name hF W0 (Id.ay.below HB0.out HV.out)).mono ?_;rintro e W1⟨u,rfl,hb1,hu⟩;obtain⟨B,HBr⟩:∃ B,Hid ((Chk.find x name).isSome=B):=⟨_,hid rfl⟩;obtain⟨r,Hr⟩:∃ r,Hid ((Chk.find x name).getD Chk.qL=r):=⟨_,hid rfl⟩;rw[Hr.out]at hu;rw[HBr.out];have HRr:Hid (R=(B&&Chk.Fe r)):=hid (by
  rw[<-HR.out,<-HBr.out,<-Hr.out];unfold Chk.order;cases Chk.find x name<;>rfl)
 obtain⟨rn,rc,rf⟩:=r;obtain⟨u2,rfl,hu2⟩:=hu;obtain⟨A9,n9,c9,rfl⟩:=ah.is hu2;simp only at hu2 ⊢;have hn9:n9=rf.length:=by obtain⟨_,_,e,_⟩:=ah.slice hu2;injection e
 have hm9:n9<=9223372036854775807:=by obtain⟨_,_,e,_,_⟩:=ah.slice hu2;injection e;omega
 have HN:=hid hn9;have HB1:=hid (HB0.out.trans (hb1.mono HB0.out.size));have HU:=hid hu2;clear hu2 hb1 hn9 q0 q1 q2 q3;go_upto_region 2 with(fail)
 refine aj (λW2 hW2=>?_);obtain⟨hb2,hq2,hs2⟩:=au hW2;clear hW2;have HB2:=hid (HB1.out.trans (hb2.mono HB1.out.size));have HU2:Hid (Id.jC W2 (some W0.heap.size) (.slice A9 n9 c9) rf):=hid (ah.below HU.out hb2 (Id.gJ.below hb2));have HQ2:=hid hq2;obtain⟨⟨q0,q1,q2⟩,_⟩:=hq2.k3;clear hb2 hq2 hs2 HU;go_wp2_with fail;clear q0 q1 q2;go_loopw [20,7,8] (λi s7 s8 wr=>∃(k:Nat)(b1 b2:Bool),k<=n9/\i=.int .i64 k/\s7=.bool b1/\s8=.bool b2/\Hid (R=(B&&(!rc&&(b1||(rf.drop k).any Chk.ug)&&(b2||(rf.drop k).any Chk.uf))))/\Hid (Below W2.heap.size W2 wr)) (λi _ _ _=>n9 - (intOf i).toNat)
 case atStart=>exact⟨0,false,false,by omega,rfl,rfl,rfl,HRr,hid (Below.refl _ _)⟩
 case round =>
  obtain⟨k,b1,b2,hk,rfl,rfl,rfl,HK,HB3⟩:=hrel;obtain⟨Wk,rfl⟩:∃ w',w'=wr:=⟨_,rfl⟩;have hbq:=HQ2.out.below HB3.out HQ2.out.lt;obtain⟨⟨q0,q1,q2⟩,_⟩:=hbq.k3;clear hbq;by_cases hlt:k<n9
  case neg =>
   obtain rfl:k=n9:=by omega
   have HE:Hid (R=(B&&(!rc&&b1&&b2))):=hid (by rw[HK.out,Chk.sH _ (by rw[HN.out];exact xB _),Chk.sH _ (by rw[HN.out];exact xB _)];simp);have HF:Hid (Below w.heap.size w Wk):=hid (HB2.out.trans (HB3.out.mono HB2.out.size));clear HK;cases B<;>cases rc<;>cases b1<;>cases b2
   all_goals
    go_wp2_with fail;go_ret;exact⟨(by first|(rw[HE.out];done)|(rw[HE.out];rfl)),HF.out⟩
  have hka:k<rf.length:=by rw[<-HN.out];exact hlt
  obtain⟨g,off,cs,rfl,_,⟨u,rfl,hs⟩,hc⟩:=ah.get HU2.out hka (by omega);have HKx:=HK.out;rw[Chk.sG _ hka,Chk.sG _ hka]at HKx;generalize rf[k]=y at *;obtain⟨yn,yt⟩:=y;simp only at hs hc;have hB:=HB3.out;have a0:=hc 0 _ rfl;have a1:=hc 1 _ rfl;have hgl:g<W2.heap.size:=xH W2 _ a0;have a0:=(hB.cell hgl).trans a0;have a1:=(hB.cell hgl).trans a1;simp only[xK]at a0;have hbs:=hB.size;have hgw:¬g=Wk.heap.size:=by omega
  have i0:(0:Int)<=(k:Int):=by omega
  have i1:(k:Int)<(n9:Int):=by omega
  have HS:Hid (Id.bG Wk none u yt):=hid (ah.below (ah.mono hs (λ_ _ hr=>hr.weak (λb' e'=>by cases e')) (λ_ _ h=>h)) hB (λ_ _ h=>h));obtain⟨A7,n7,c7,rfl⟩:=ah.is hs;have HD:=hid HKx;clear hB hc HKx HK hka hs;go_upto_region 6 with(fail)
  refine aj (λW3 hW3=>?_);obtain⟨hb4,hq4,hs4⟩:=au hW3;clear hW3;have HB4:=hid (HB3.out.trans (hb4.mono hbs));have HS4:Hid (Id.bG W3 none (.slice A7 n7 c7) yt):=hid (ah.below HS.out hb4 (λ_ _ h=>h));obtain⟨⟨d0,d1⟩,_⟩:=hq4.k2;clear hq4 hb4 a0 a1 q0 q1 q2;have HC4:Hid (Calls Tryz.prog 174 #[.slice A7 n7 c7,.int .u8 4] W3 λe w'=>e=.returned (.bool (Chk.only yt 4))/\w'=W3):=hid (D8 _ yt 4 (by omega) W3 HS4.out);have HC3:Hid (Calls Tryz.prog 174 #[.slice A7 n7 c7,.int .u8 3] W3 λe w'=>e=.returned (.bool (Chk.only yt 3))/\w'=W3):=hid (D8 _ yt 3 (by omega) W3 HS4.out);unfold Chk.ug Chk.uf at HD;generalize Chk.only yt 4=o4 at *;generalize Chk.only yt 3=o3 at *;simp only at HD;have key:∀ b1' b2':Bool,b1'=(b1||(yn.toList==[97,99,99,111,117,110,116]&&o4))->b2'=(b2||(yn.toList==[97,109,111,117,110,116]&&o3))->Hid (R=(B&&(!rc&&(b1'||(rf.drop (k+1)).any Chk.ug)&&(b2'||(rf.drop (k+1)).any Chk.uf)))):=λb1' b2' e1 e2=>hid (by rw[HD.out,e1,e2];unfold Chk.ug Chk.uf;simp only[Bool.or_assoc])
  have HKEY:=hid key;clear HD key;cases b1<;>cases b2<;>cases h1:(yn.toList==[97,99,99,111,117,110,116])<;>cases h2:(yn.toList==[97,109,111,117,110,116])
  all_goals
   rw[h1,h2]at HKEY;go_wp2_with fail;try(with_reducible refine HC4.out.mono ?_;rintro e w1⟨rfl,rfl⟩;go_wp2_with fail)
   try(with_reducible refine HC3.out.mono ?_;rintro e w1⟨rfl,rfl⟩;go_wp2_with fail)
   go_roundw
   case rel=>exact⟨k+1,_,_,by omega,by go_num,rfl,rfl,HKEY.out _ _ (by simp) (by simp),HB4⟩
   case measure=>simp[intOf];omega
end
section
open Go.BigFrame Go.Maps Go.WideMaps
theorem uN:Keyed Tryz.prog 9:=string_keyed Tryz.underlying9
theorem Bh(w:World):(zeroValue 3).run Tryz.prog w=.ok (.int .i64 0) w:=by kernel_rfl
abbrev vJ(n:Int):DataW Unit:=.lit (.int .i64 n)
theorem F9{D:DataW Unit}{kl:Lit}{c c':Int}(h:D.atKey kl (vJ 0)=vJ c)(h':D.atKey kl (.lit (.int .i64 0))=.lit (.int .i64 c')):c'=c:=by
 have e:=h'.symm.trans h;injection e with e
 injection e
theorem wU{s:ByteArray}(h:s.size<=maxLen):keyOf Tryz.prog 9 (.string s)=some (.string s.data.toList):=keyOf_string_mk Tryz.underlying9 h
theorem qM{w:World}{R:Value->Option (DataW Unit × List MemPlace)}{b n:Nat}{D:DataW Unit}(h:w.ownsMap Tryz.prog 9 R b n D):IsMap D:=by
 obtain⟨es,clock,_,_,_,rfl⟩:=h;exact⟨_,rfl⟩
namespace Chk
def Cnt(w:World)(b:Nat)(seen:List ByteArray):Prop :=
 ∃ D:DataW Unit,w.ownsMap Tryz.prog 9 (plainElem Tryz.prog 3) b seen.length D/\∀ s:ByteArray,D.atKey (.string s.data.toList) (vJ 0)=vJ (seen.countP (λy=>y.toList==s.toList))
def Mrk(w:World)(b:Nat)(out:List ByteArray):Prop :=
 ∃ D:DataW Unit,w.ownsMap Tryz.prog 9 (plainElem Tryz.prog 3) b out.length D/\∀ s:ByteArray,D.atKey (.string s.data.toList) (vJ 0)=vJ (if out.any (λy=>y.toList==s.toList)then 1 else 0)
theorem Cnt.made(w:World):Cnt (w.alloc (.map #[] 0)) w.heap.size []:=⟨_,World.ownsMap_made _ _ _ _,λs=>rfl⟩
theorem Mrk.made(w:World):Mrk (w.alloc (.map #[] 0)) w.heap.size []:=⟨_,World.ownsMap_made _ _ _ _,λs=>rfl⟩
theorem Cnt.kept{w w':World}{row:Option Nat}{b:Nat}{seen:List ByteArray}(h:Cnt w b seen)(hg:w.grownBy w' row)(hne:some b≠row):Cnt w' b seen:=let⟨D,h1,h2⟩:=h;⟨D,h1.kept hg hne,h2⟩
theorem Mrk.kept{w w':World}{row:Option Nat}{b:Nat}{out:List ByteArray}(h:Mrk w b out)(hg:w.grownBy w' row)(hne:some b≠row):Mrk w' b out:=let⟨D,h1,h2⟩:=h;⟨D,h1.kept hg hne,h2⟩
theorem Cnt.below{w w':World}{b:Nat}{seen:List ByteArray}(h:Cnt w b seen)(hg:Below w.heap.size w w'):Cnt w' b seen:=h.kept (pO hg none) (by simp)
theorem Mrk.below{w w':World}{b:Nat}{out:List ByteArray}(h:Mrk w b out)(hg:Below w.heap.size w w'):Mrk w' b out:=h.kept (pO hg none) (by simp)
theorem Cnt.lt{w:World}{b:Nat}{seen:List ByteArray}(h:Cnt w b seen):b<w.heap.size:=let⟨_,h1,_⟩:=h;h1.lt
theorem Iz{a b:ByteArray}(h:(a.toList==b.toList)=false):Lit.string b.data.toList≠Lit.string a.data.toList:=by
 intro e;injection e with e
 rw[ByteArray.toList_eq,ByteArray.toList_eq,e]at h;simp at h
theorem data_eq{a b:ByteArray}(h:(a.toList==b.toList)=true):a=b:=Tk.text_eq (by simpa using h)
def bD(seen:List ByteArray)(s:ByteArray):Bool:=seen.any (λy=>y.toList==s.toList)
theorem JV(seen:List ByteArray)(s:ByteArray):(((seen.countP (λy=>y.toList==s.toList):Nat):Int)+1==1)=!bD seen s:=by
 have h1:seen.countP (λy=>y.toList==s.toList)=0↔bD seen s=false:=by
  unfold bD;rw[List.countP_eq_zero,List.any_eq_false]
 cases hs:bD seen s
 ·rw[h1.2 hs];rfl
 ·have:seen.countP (λy=>y.toList==s.toList)≠0:=λh=>by rw[h1.1 h]at hs;cases hs
  rw[beq_eq_false_iff_ne.2 (by omega)];rfl
end Chk
theorem sD(b:Nat)(seen:List ByteArray)(name:ByteArray)(hn:name.size<=10000)(hl:seen.length<=100000)(w:World)(h:Chk.Cnt w b seen) :
  Calls Tryz.prog 107 #[.map (some b),.string name] w λe w'=>e=.returned (.bool (!Chk.bD seen name))/\w.grownBy w' (some b)/\Chk.Cnt w' b (seen++[name]):=by
 rw[<-Chk.JV];obtain⟨D,hown,hat⟩:=h;have hc:seen.countP (λy=>y.toList==name.toList)<=100000:=xM List.countP_le_length hl;have hkey:keyOf Tryz.prog 9 (.string name)=some (.string name.data.toList):=wU (by unfold maxLen;omega);have HAT:=hid hat;have HIM:=hid (qM hown);obtain⟨c,hcc⟩:∃ c,c=seen.countP (λy=>y.toList==name.toList):=⟨_,rfl⟩;have HCC:=hid hcc;have RV:=hat name;rw[<-hcc]at RV hc;rw[<-hcc];have hw1:(Lit.int IntKind.i64 ((c:Int)+1)).wf=true:=WalkArith.wf_i64 (by omega);have hw2:IntKind.i64.wrap ((c:Int)+1)=(c:Int)+1:=by
  have:=hw1;unfold IntKind.wrap;simp[IntKind.bits,IntKind.signed];omega
 clear hat hcc;go_enter Tryz.func107,Tryz.ntmps107;go_upto_region 2 with(first
  |(at_lookup;refine wpList_lookup_own_int _ rfl _ _ 188 rfl 9 3 .i64 uN Tryz.underlying188 Tryz.underlying3 (Bh _) b seen.length _ rfl hown _ _ rfl hkey ?_;intro c' hat' hwc;obtain rfl:c'=(c:Int):=F9 RV hat';clear hat' hwc)
  |(at_mapUpdate;refine wpList_mapUpdate_own _ rfl _ _ _ 188 rfl 9 3 uN Tryz.underlying188 _ b seen.length _ rfl hown (by unfold maxLen;omega) _ _ _ rfl rfl hkey _ [] (plainElem_int Tryz.underlying3 hw1) ?_;intro w1 hown1 hgrow1)
  |go_in)
 have RU:(D.put (.string name.data.toList) (.lit (.int .i64 ((c:Int)+1)))).atKey (.string name.data.toList) (.lit (.int .i64 0))=.lit (.int .i64 ((c:Int)+1)):=atKey_put_same (k:=.string name.data.toList) HIM.out (by unfold WideAt.IsKeyLit;trivial) _ _;have HG:=hid hgrow1;clear hgrow1 hown;go_wp2_with(first
  |(at_lookup;refine wpList_lookup_own_int _ rfl _ _ 188 rfl 9 3 .i64 uN Tryz.underlying188 Tryz.underlying3 (Bh _) b (seen.length+1) _ rfl hown1 _ _ rfl hkey ?_;intro c' hat' hwc;obtain rfl:c'=(c:Int)+1:=F9 RU hat';clear hat' hwc)
  |go_in)
 go_ret;refine⟨rfl,HG.out,_,by rw[xI];exact hown1,λs=>?_⟩;rw[List.countP_append,List.countP_singleton];cases hs:(name.toList==s.toList)
 ·rw[atKey_put_other (Chk.Iz hs),HAT.out s]
  simp
 ·obtain rfl:=Chk.data_eq hs
  rw[RU,HCC.out];simp
end
section
open Go.BigFrame
namespace Chk
open Id
def vN(P:List UInt8->Prop)(t:List Srt):Prop:=match t with
 |[]=>False
 |x::_=>x.kind≠7∨P x.name.toList
def isP(P:List UInt8->Prop)(r:Rec):Prop:=(r.choice=true->∃ x∈r.fields,vN P x.type)/\(r.choice=false->∀ x∈r.fields,vN P x.type)
def Val(rs:List Rec)(s:List UInt8):Prop:=∀ P:List UInt8->Prop,(∀ r∈rs,isP P r->P r.name.toList)->P s
open Classical in
noncomputable def pz(rs:List Rec)(s:ByteArray):Bool:=decide (Val rs s.toList)
theorem Dl{P Q:List UInt8->Prop}(h:∀ s,P s->Q s){t:List Srt}(ht:vN P t):vN Q t:=by
 cases t with
 |nil=>exact ht
 |cons x l=>exact ht.imp id (h _)
theorem zI{P Q:List UInt8->Prop}(h:∀ s,P s->Q s){r:Rec}(hr:isP P r):isP Q r :=
 ⟨λhc=>let⟨x,hx,hp⟩:=hr.1 hc;⟨x,hx,Dl h hp⟩,λhc x hx=>Dl h (hr.2 hc x hx)⟩
theorem Val.step{rs:List Rec}{r:Rec}(hr:r∈rs)(h:isP (Val rs) r):Val rs r.name.toList:=λP hP=>hP r hr (zI (λs hs=>hs P hP) h)
def pK(out:List ByteArray)(t:List Srt):Bool:=match t with
 |[]=>false
 |x::_=>x.kind != 7||bD out x.name
def isR(out:List ByteArray)(r:Rec):Bool :=
 (r.choice&&decide (0<r.fields.countP λx=>pK out x.type))||(!r.choice&&(r.fields.countP λx=>pK out x.type)==r.fields.length)
def inP(out:List ByteArray)(s:List UInt8):Prop:=(out.any λy=>y.toList==s)=true
theorem vM{out:List ByteArray}{t:List Srt}:pK out t=true↔vN (inP out) t:=by
 cases t with
 |nil=>simp[pK,vN]
 |cons x l=>simp[pK,vN,inP,bD]
theorem BJ{out:List ByteArray}{r:Rec}:isR out r=true↔isP (inP out) r:=by
 unfold isR isP;cases hc:r.choice
 ·simp only[Bool.false_and,Bool.not_false,Bool.true_and,Bool.false_or,beq_iff_eq,List.countP_eq_length]
  simp only[Bool.false_eq_true,false_implies,true_and,true_implies];exact⟨λh x hx=>vM.1 (h x hx),λh x hx=>vM.2 (h x hx)⟩
 ·simp only[Bool.true_and,Bool.not_true,Bool.false_and,Bool.or_false,decide_eq_true_eq,List.countP_pos_iff]
  simp only[true_implies,Bool.true_eq_false,false_implies,and_true];exact⟨λ⟨x,hx,h⟩=>⟨x,hx,vM.1 h⟩,λ⟨x,hx,h⟩=>⟨x,hx,vM.2 h⟩⟩
def Sound(rs:List Rec)(out:List ByteArray):Prop:=∀ s,inP out s->Val rs s
def miss(rs:List Rec)(out:List ByteArray):Nat:=rs.countP λr=>!bD out r.name
theorem Sound.next{rs:List Rec}{out:List ByteArray}(h:Sound rs out){r:Rec}(hr:r∈rs)(hi:isR out r=true):Sound rs (out++[r.name]):=λs hs=>by
 unfold inP at hs;rw[List.any_append,Bool.or_eq_true]at hs;rcases hs with hs|hs
 ·exact h s hs
 ·simp only[List.any_cons,List.any_nil,Bool.or_false,beq_iff_eq]at hs
  subst hs;exact Val.step hr (zI h (BJ.1 hi))
theorem lY{out:List ByteArray}{n s:ByteArray}:bD (out++[n]) s=(bD out s||n.toList==s.toList):=by simp[bD]
theorem Df{out:List ByteArray}{r:Rec}(hu:bD out r.name=false):∀{rs:List Rec},r∈rs->miss rs (out++[r.name])+1<=miss rs out
 |[],h=>absurd h List.not_mem_nil
 |a::l,h=>by
  have mono:∀ l:List Rec,miss l (out++[r.name])<=miss l out:=λl=>List.countP_mono_left (λx _ hx=>by
   rw[lY]at hx;cases hs:bD out x.name
   ·rfl
   ·rw[hs]at hx;simp at hx)
  unfold miss;rw[List.countP_cons,List.countP_cons];have hm:=mono l;unfold miss at hm;rcases List.mem_cons.1 h with e|h'
  ·subst e
   have e2:bD (out++[r.name]) r.name=true:=by rw[lY];simp
   rw[e2,hu];simp;exact hm
  ·have ih:=Df hu h'
   unfold miss at ih;have:(if(!bD (out++[r.name]) a.name)=true then 1 else 0)<=(if(!bD out a.name)=true then 1 else 0):=by
    rw[lY];cases bD out a.name<;>cases (r.name.toList==a.name.toList)<;>simp
   omega
theorem Il(rs:List Rec)(out:List ByteArray):miss rs out<=rs.length:=List.countP_le_length
def Closed(rs:List Rec)(out:List ByteArray):Prop:=∀ r∈rs,isR out r=true->bD out r.name=true
open Classical in
theorem Closed.val{rs:List Rec}{out:List ByteArray}(h:Closed rs out)(hs:Sound rs out)(s:ByteArray):bD out s=pz rs s:=by
 rw[Bool.eq_iff_iff];unfold pz;rw[decide_eq_true_eq];exact⟨λh1=>hs _ h1,λh1=>h1 (inP out) (λr hr hp=>h r hr (BJ.2 hp))⟩
structure uq(rs:List Rec)(out:List ByteArray)(again:Bool)(k:Nat):Prop where
 sound:Sound rs out
 len:out.length+miss rs out<=rs.length
 more:again=true->miss rs out+2<=k
 one:1<=k
 done:again=false->Closed rs out
structure mX(rs:List Rec)(mF out:List ByteArray)(again:Bool)(j:Nat):Prop where
 sound:Sound rs out
 len:out.length+miss rs out<=rs.length
 yes:again=true->miss rs out+1<=miss rs mF
 no:again=false->out=mF/\∀ i (h:i<rs.length),i<j->isR mF rs[i]=true->bD mF rs[i].name=true
theorem uq.start(rs:List Rec):uq rs [] true (rs.length+2) :=
 ⟨λs hs=>by unfold inP at hs;simp at hs,by have:=Il rs [];simpa using this,λ_=>by have:=Il rs [];omega,by omega,λh=>by cases h⟩
theorem uq.pass{rs:List Rec}{out:List ByteArray}{k:Nat}(h:uq rs out true k):mX rs out out false 0 :=
 ⟨h.sound,h.len,(λe=>by cases e),λ_=>⟨rfl,λi _ hi=>absurd hi (Nat.not_lt_zero _)⟩⟩
theorem mX.skip{rs:List Rec}{mF out:List ByteArray}{again:Bool}{j:Nat}(h:mX rs mF out again j)(hj:j<rs.length)(hs:isR out rs[j]=false∨bD out rs[j].name=true):mX rs mF out again (j+1) :=
 ⟨h.sound,h.len,h.yes,λe=>by
  obtain⟨h1,h2⟩:=h.no e;subst h1;refine⟨rfl,λi hi hij hr=>?_⟩;by_cases e:i=j
  ·subst e
   rcases hs with hs|hs
   ·rw[hs]at hr;cases hr
   ·exact hs
  ·exact h2 i hi (by omega) hr⟩
theorem mX.take{rs:List Rec}{mF out:List ByteArray}{again:Bool}{j:Nat}(h:mX rs mF out again j)(hj:j<rs.length)(hi:isR out rs[j]=true)(hs:bD out rs[j].name=false):mX rs mF (out++[rs[j].name]) true (j+1):=by
 have hm:=Df hs (xR hj);have hlen:=h.len;refine⟨h.sound.next (xR hj) hi,by rw[xI];simp;omega,λ_=>?_,λe=>by cases e⟩;cases again with
 |true=>have:=h.yes rfl;omega
 |false=>obtain⟨e,_⟩:=h.no rfl;subst e;omega
theorem mX.fin{rs:List Rec}{mF out:List ByteArray}{again:Bool}{k:Nat}(h:mX rs mF out again rs.length)(h0:uq rs mF true k):uq rs out again (if again then miss rs out+2 else 1)/\(if again then miss rs out+2 else 1)<k:=by
 have hk:=h0.more rfl;cases again with
 |true =>
  have hy:=h.yes rfl;exact⟨⟨h.sound,h.len,λ_=>by simp,by simp,λe=>by cases e⟩,by simp;omega⟩
 |false =>
  obtain⟨rfl,h2⟩:=h.no rfl;refine⟨⟨h.sound,h.len,(λe=>by cases e),by simp,λ_ r hr hi=>?_⟩,by simp;omega⟩;obtain⟨i,hi',rfl⟩:=List.getElem_of_mem hr;exact h2 i hi' hi' hi
theorem GK{α:Type}(p:α->Bool){l:List α}{k:Nat}(h:k<l.length):(l.drop k).countP p=(l.drop (k+1)).countP p+(if p l[k]=true then 1 else 0):=by
 rw[xQ h,List.countP_cons]
theorem GL{α:Type}(p:α->Bool){l:List α}{k:Nat}(h:l.length<=k):(l.drop k).countP p=0:=by
 rw[xP h];rfl
end Chk
end
section
open Go.BigFrame Go.Maps Go.WideMaps
theorem Chk.Mrk.look{w:World}{b:Nat}{out:List ByteArray}(h:Chk.Mrk w b out)(s:ByteArray)(hs:s.size<=10000):(Instr.lookup 187 (.map (some b)) (.string s) false).run Tryz.prog w=.ok (.int .i64 (if Chk.bD out s then 1 else 0)) w:=by
 obtain⟨D,h1,h2⟩:=h;obtain⟨c,hrun,hat,_⟩:=h1.lookup_int uN Tryz.underlying187 Tryz.underlying3 (Bh _) (wU (s:=s) (by unfold maxLen;omega));obtain rfl:=F9 (h2 s) hat;exact hrun
theorem Chk.Mrk.drewN{w:World}{b:Nat}{out:List ByteArray}(h:Chk.Mrk w b out)(n:Nat):Chk.Mrk (w.drewN n) b out:=h
theorem FQ(mp mb:Nat)(out:List ByteArray)(tv:Value)(t:List Id.Srt)(hz:∀ x∈t,x.name.size<=10000)(w:World)(hp:Bk w mp 187 #[.map (some mb)])(hm:Chk.Mrk w mb out)(ht:Id.bG w none tv t) :
  Calls Tryz.prog 173 #[tv,.pointer (some ⟨mp,0,none⟩)] w λe w'=>e=.returned (.bool (Chk.pK out t))/\∃ q,w'=w.drewN q:=by
 obtain⟨A,c,rfl,hnc,hcm,-⟩:=ah.slice ht;cases t with
 |nil =>
  unfold Chk.pK;clear ht hnc hm hp;go_enter Tryz.func173,Tryz.ntmps173;go_wp2_with fail;go_quiet (fail);go_wp2_with fail;go_ret;exact⟨rfl,nq,rfl⟩
 |cons x l =>
  obtain⟨g,off,cs,rfl,-,e1,hc⟩:=ah.get ht (i:=0) (by simp) (by omega);unfold Id.gU Id.Srt.cells at e1;subst e1;have a0:=hc 0 _ rfl;have a1:=hc 1 _ rfl;have hxz:=hz x (by simp);have hk:=λn=>Chk.Mrk.look (hm.drewN n) x.name hxz
  simp only[Nat.zero_mul,xK,List.getElem_cons_zero]at a0 a1;obtain⟨q0,-⟩:=hp.k1;have hl0:(0:Int)<(l.length:Int)+1:=by omega
  have hl1:0<l.length+1:=by omega
  have hl2:¬((l.length:Int)+1<=0):=by omega
  simp only[xJ]at hnc ⊢;clear hc ht hm hp hz hxz;generalize l.length=m at *;rw[show Chk.pK out (x::l)=(x.kind != 7||Chk.bD out x.name)from rfl];generalize Chk.bD out x.name=sb at *;obtain⟨xk,xn⟩:=x;simp only at a0 a1 hk ⊢;by_cases h7:xk=7
  ·subst h7
   cases sb
   all_goals
    go_enter Tryz.func173,Tryz.ntmps173;go_wp2_with fail;go_quiet (fail);go_wp2_with fail;go_ret;exact⟨rfl,nq,rfl⟩
  ·have t7:((xk:Int) != 7)=true:=by rw[bne_iff_ne];omega
   have t8:(xk != 7)=true:=by rw[bne_iff_ne];omega
   rw[t8];clear h7;go_enter Tryz.func173,Tryz.ntmps173;go_wp2_with fail;go_quiet (fail);go_wp2_with fail;go_ret;exact⟨rfl,nq,rfl⟩
structure Chk.wu(w wr:World)(S:Array Value)(out:List ByteArray):Prop where
 bel:Below w.heap.size w wr
 box:Bk wr w.heap.size 28 S
 ptr:Bk wr (w.heap.size+2) 187 #[.map (some (w.heap.size+1))]
 mrk:Chk.Mrk wr (w.heap.size+1) out
 size:w.heap.size+3<=wr.heap.size
theorem Chk.wu.below{w wr w':World}{S:Array Value}{out:List ByteArray}(h:Chk.wu w wr S out)(hb:Below wr.heap.size wr w'):Chk.wu w w' S out :=
 ⟨h.bel.trans (hb.mono h.bel.size),h.box.below hb h.box.lt,h.ptr.below hb h.ptr.lt,h.mrk.below hb,xM h.size hb.size⟩
theorem Chk.wu.put{w wr w':World}{S:Array Value}{out out':List ByteArray}(h:Chk.wu w wr S out)(hg:wr.grownBy w' (some (w.heap.size+1)))(hm:Chk.Mrk w' (w.heap.size+1) out'):Chk.wu w w' S out' :=
 ⟨jr h.bel hg (by omega) h.bel.size,h.box.grown hg (by intro e;injection e with e;omega),h.ptr.grown hg (by intro e;injection e with e;omega),hm,xM h.size hg.size⟩
theorem Chk.Fp{w':World}{b:Nat}{out:List ByteArray}{D:DataW Unit}(him:IsMap D)(hat:∀ s:ByteArray,D.atKey (.string s.data.toList) (vJ 0)=vJ (if out.any (λy=>y.toList==s.toList)then 1 else 0))(name:ByteArray)
  (h:w'.ownsMap Tryz.prog 9 (plainElem Tryz.prog 3) b (out.length+1) (D.put (.string name.data.toList) (vJ 1))):Chk.Mrk w' b (out++[name]):=by
 refine⟨_,by rw[xI];exact h,λs=>?_⟩;rw[List.any_append];cases hs:(name.toList==s.toList)
 ·rw[atKey_put_other (Chk.Iz hs),hat s]
  simp[hs]
 ·obtain rfl:=Chk.data_eq hs
  rw[atKey_put_same (k:=.string name.data.toList) him (by unfold WideAt.IsKeyLit;trivial) _ _];simp
theorem GV(v:Value)(x:Id.Sch)(hz:∀ r∈x.records,r.name.size<=10000/\∀ f∈r.fields,∀ t∈f.type,t.name.size<=10000)(hl:x.records.length<=10000)(w:World)(hv:Id.ay w none v x) :
  Calls Tryz.prog 110 #[v] w λe w'=>∃ b out,e=.returned (.map (some b))/\Below w.heap.size w w'/\w.heap.size<=b/\Chk.Mrk w' b out/\∀ s,Chk.bD out s=Chk.pz x.records s:=by
 obtain⟨A1,n1,c1,A2,n2,c2,A3,n3,c3,rfl,r1,-,-⟩:=hv;generalize x.records=rs at *;generalize x.name=xn at *;have hn1:n1=rs.length:=by obtain⟨_,_,e,_⟩:=ah.slice r1;injection e
 have hm1:n1<=10000:=by omega
 have HN:=hid hn1;have H1:=hid r1;have HZ:=hid hz;clear r1 hn1 hz hl;have hmm:=@run_makeMap Tryz.prog;go_enter Tryz.func110,Tryz.ntmps110;go_upto_region 3 with(fail)
 refine aj (λW0 hW0=>?_);have HW0:Hid (Chk.wu w W0 #[.string xn,.slice A1 n1 c1,.slice A2 n2 c2,.slice A3 n3 c3] []):=hid (by
  subst hW0;have hb:=((((Below.refl w.heap.size w).alloc (xB _) (.cells #[.string xn,.slice A1 n1 c1,.slice A2 n2 c2,.slice A3 n3 c3] 28)).alloc (by simp) (.map #[] 0)).alloc (by simp;omega) (.cells #[.map (some (w.heap.size+1))] 187));have q2:=Bk.new ((w.alloc (.cells #[.string xn,.slice A1 n1 c1,.slice A2 n2 c2,.slice A3 n3 c3] 28)).alloc (.map #[] 0)) 187 #[.map (some (w.heap.size+1))];have q1:=Chk.Mrk.made (w.alloc (.cells #[.string xn,.slice A1 n1 c1,.slice A2 n2 c2,.slice A3 n3 c3] 28));simp only[World.size_alloc]at q1 q2;exact⟨hb,((Bk.new w _ _).alloc _).alloc _,q2,q1.below ((Below.refl _ _).alloc (xB _) _),by simp⟩)
 clear hW0 hmm;go_wp2_with fail;go_loopg [5] (rs.length+2) (λn s5 wr=>∃(again:Bool)(out:List ByteArray),s5=.bool again/\Hid (Chk.uq rs out again n)/\Hid (Chk.wu w wr #[.string xn,.slice A1 n1 c1,.slice A2 n2 c2,.slice A3 n3 c3] out))
 case atStart=>exact⟨true,[],rfl,hid (Chk.uq.start rs),HW0⟩
 case round =>
  obtain⟨again,mF,rfl,HF,HW⟩:=hrel;obtain⟨Wo,rfl⟩:∃ w',w'=wr:=⟨_,rfl⟩;cases again with
  |false =>
   obtain⟨q0,-⟩:=HW.out.ptr.k1;go_wp2_with fail;go_ret;exact⟨_,mF,rfl,HW.out.bel,by omega,HW.out.mrk,λs=>(HF.out.done rfl).val HF.out.sound s⟩
  |true =>
   obtain⟨⟨q0,q1,q2,q3⟩,-⟩:=HW.out.box.k4;go_wp2_with fail;clear q0 q1 q2 q3;go_loopw [18,5] (λi s5 wr=>∃(j:Nat)(again:Bool)(out:List ByteArray),j<=n1/\i=.int .i64 j/\s5=.bool again/\Hid (Chk.mX rs mF out again j)/\Hid (Chk.wu w wr #[.string xn,.slice A1 n1 c1,.slice A2 n2 c2,.slice A3 n3 c3] out)) (λi _ _=>n1 - (intOf i).toNat)
   case atStart=>exact⟨0,false,mF,by omega,rfl,rfl,hid HF.out.pass,HW⟩
   case round =>
    obtain⟨j,again,out,hj,rfl,rfl,HP,HW1⟩:=hrel;obtain⟨W1,rfl⟩:∃ w',w'=wr:=⟨_,rfl⟩;by_cases hlt:j<n1
    case neg =>
     obtain rfl:j=n1:=by omega
     have hfin:=Chk.mX.fin (by rw[<-HN.out];exact HP.out) HF.out;go_wp2_with fail;go_roundg (if again then Chk.miss rs out+2 else 1)
     case rel=>exact⟨again,out,rfl,hid hfin.1,HW1⟩
     case measure=>exact hfin.2
    have hka:j<rs.length:=by rw[<-HN.out];exact hlt
    obtain⟨g,off,cs,rfl,-,⟨u,rfl,HU⟩,hc⟩:=ah.get H1.out hka (by omega);have hzj:=HZ.out rs[j] (xR _);have J7:=λh=>HP.out.skip hka h
    have htake:=λh h'=>HP.out.take hka h h'
    generalize rs[j]=r at *;obtain⟨rn,rc,rf⟩:=r;simp only at HU hc hzj J7 htake;have hB:=HW1.out.bel;have a0:=hc 0 _ rfl;have a1:=hc 1 _ rfl;have a2:=hc 2 _ rfl;have hgl:g<w.heap.size:=xH w _ a0;have a0:=(hB.cell hgl).trans a0;have a1:=(hB.cell hgl).trans a1;have a2:=(hB.cell hgl).trans a2;simp only[xK]at a0;have i0:(0:Int)<=(j:Int):=by omega
    have i1:(j:Int)<(n1:Int):=by omega
    obtain⟨A5,n5,c5,rfl⟩:=ah.is HU;have hn5:n5=rf.length:=by obtain⟨_,_,e,_⟩:=ah.slice HU;injection e
    have hm5:n5<=9223372036854775807:=by obtain⟨_,_,e,_,_⟩:=ah.slice HU;injection e;omega
    have hbw:=HW1.out.size;have hgw:¬g=W1.heap.size:=by omega
    have HN5:=hid hn5;have HHZ:=hid hzj;have HSK:=hid J7;have HTK:=hid htake;have HU2:=hid HU;clear hc hB hka HU hzj J7 htake hn5;go_upto_region 9 with(fail)
    refine aj (λW2 hW2=>?_);obtain⟨hb2,hq2,-⟩:=au hW2;clear hW2;have HW2:=hid (HW1.out.below hb2);have HQ2:=hid hq2;clear hb2 a0 a1 a2;obtain⟨⟨b0,b1,b2⟩,-⟩:=hq2.k3;clear hq2;go_wp2_with fail;clear b0 b1 b2;obtain⟨N,HNN⟩:∃ N,Hid (rf.countP (λx=>Chk.pK out x.type)=N):=⟨_,hid rfl⟩;have UA:N<=n5:=by rw[<-HNN.out,HN5.out];exact List.countP_le_length
    go_loopw [25,8] (λi s8 wr=>∃(k m:Nat),k<=n5/\i=.int .i64 k/\s8=.int .i64 m/\m<=k/\Hid (m+(rf.drop k).countP (λx=>Chk.pK out x.type)=N)/\Hid (Below W2.heap.size W2 wr)) (λi _ _=>n5 - (intOf i).toNat)
    case atStart=>exact⟨0,0,by omega,rfl,rfl,by omega,hid (by rw[Nat.zero_add];exact HNN.out),hid (Below.refl _ _)⟩
    case round =>
     obtain⟨k,m,hk,rfl,rfl,hmk,HK,HB3⟩:=hrel;obtain⟨W3,rfl⟩:∃ w',w'=wr:=⟨_,rfl⟩;have HW3:=hid (HW2.out.below HB3.out);by_cases hkl:k<n5
     case neg =>
      obtain rfl:k=n5:=by omega
      obtain rfl:m=N:=by rw[<-HK.out,Chk.GL _ (by rw[HN5.out];exact xB _)];rfl
      have hq3:=HQ2.out.below HB3.out HQ2.out.lt;obtain⟨⟨b0,b1,b2⟩,-⟩:=hq3.k3;clear hq3 HK;have hlook:=HW3.out.mrk.look rn HHZ.out.1;obtain⟨p0,-⟩:=HW3.out.ptr.k1;obtain⟨IS,HIS⟩:∃ IS,Hid (Chk.isR out ⟨rn,rc,rf⟩=IS):=⟨_,hid rfl⟩;have Uj:Hid (IS=((rc&&decide (0<m))||(!rc&&m==k))):=hid (by
       rw[<-HIS.out];unfold Chk.isR;simp only;rw[HNN.out,<-HN5.out])
      obtain⟨SB,HSB⟩:∃ SB,Hid (Chk.bD out rn=SB):=⟨_,hid rfl⟩;rw[HSB.out]at hlook;have hmc:((m:Int)==(k:Int))=(m==k):=by rw[Bool.eq_iff_iff];simp only[beq_iff_eq];omega
      have key:IS=((rc&&decide (0<m))||(!rc&&m==k)):=Uj.out;cases IS with
      |false =>
       have HP1:=hid (HSK.out (.inl HIS.out));cases rc
       ·have hne:(m==k)=false:=by simpa using key.symm
        rw[hne]at hmc;clear hne key;go_wp2_with fail;all_goals
         go_roundw
         case rel=>exact⟨j+1,again,out,by omega,by go_num,rfl,HP1,HW3⟩
         case measure=>simp[intOf];omega
       ·have hne:m=0:=by have:=key.symm;simp at this;omega
        subst hne;clear key;go_wp2_with fail;all_goals
         go_roundw
         case rel=>exact⟨j+1,again,out,by omega,by go_num,rfl,HP1,HW3⟩
         case measure=>simp[intOf];omega
      |true =>
       cases SB with
       |true =>
        have HP1:=hid (HSK.out (.inr HSB.out));cases rc
        ·have hne:(m==k)=true:=by simpa using key.symm
         rw[hne]at hmc;clear hne key;go_wp2_with fail;all_goals
          go_roundw
          case rel=>exact⟨j+1,again,out,by omega,by go_num,rfl,HP1,HW3⟩
          case measure=>simp[intOf];omega
        ·have hne:0<m:=by have:=key.symm;simp at this;omega
         clear key;go_wp2_with fail;all_goals
          go_roundw
          case rel=>exact⟨j+1,again,out,by omega,by go_num,rfl,HP1,HW3⟩
          case measure=>simp[intOf];omega
       |false =>
        have HP1:=hid (HTK.out HIS.out HSB.out);have hlen:out.length<=10000:=by have:=HP.out.len;have:=HN.out;omega
        obtain⟨D,hown,hat⟩:=HW3.out.mrk;have hkey:=wU (s:=rn) (by have:=HHZ.out.1;unfold maxLen;omega);have HAT:=hid hat;clear hat;cases rc
        ·have hne:(m==k)=true:=by simpa using key.symm
         rw[hne]at hmc;clear hne key;go_wp2_with(first|(at_mapUpdate;refine wpList_mapUpdate_own _ rfl _ _ _ 187 rfl 9 3 uN Tryz.underlying187 _ (w.heap.size+1) out.length _ rfl hown (by unfold maxLen;omega) _ _ _ rfl rfl hkey _ [] (plainElem_int Tryz.underlying3 (by decide)) ?_;intro w1 hown1 hgrow1)|go_in);have HW4:=hid (HW3.out.put hgrow1 (Chk.Fp (qM hown) HAT.out rn hown1));clear hown1 hgrow1 hown hlook b0 b1 b2 p0;go_wp2_with fail;go_roundw
         case rel=>exact⟨j+1,true,_,by omega,by go_num,rfl,HP1,HW4⟩
         case measure=>simp[intOf];omega
        ·have hne:0<m:=by have:=key.symm;simp at this;omega
         clear key;go_wp2_with(first|(at_mapUpdate;refine wpList_mapUpdate_own _ rfl _ _ _ 187 rfl 9 3 uN Tryz.underlying187 _ (w.heap.size+1) out.length _ rfl hown (by unfold maxLen;omega) _ _ _ rfl rfl hkey _ [] (plainElem_int Tryz.underlying3 (by decide)) ?_;intro w1 hown1 hgrow1)|go_in);have HW4:=hid (HW3.out.put hgrow1 (Chk.Fp (qM hown) HAT.out rn hown1));clear hown1 hgrow1 hown hlook b0 b1 b2 p0;go_wp2_with fail;go_roundw
         case rel=>exact⟨j+1,true,_,by omega,by go_num,rfl,HP1,HW4⟩
         case measure=>simp[intOf];omega
     have hkf:k<rf.length:=by rw[<-HN5.out];exact hkl
     obtain⟨g5,Oz,cs5,rfl,-,⟨u5,rfl,HU5⟩,hc5⟩:=ah.get HU2.out hkf (by omega);have hkz:=HHZ.out.2 rf[k] (xR _);have HD:=HK.out;rw[Chk.GK _ hkf]at HD;generalize rf[k]=y at *;obtain⟨yn,yt⟩:=y;simp only at HU5 hc5 hkz HD;have hB:=HW3.out.bel;have a0:=hc5 0 _ rfl;have a1:=hc5 1 _ rfl;have wW:g5<w.heap.size:=xH w _ a0;have a0:=(hB.cell wW).trans a0;have a1:=(hB.cell wW).trans a1;simp only[xK]at a0;have i2:(0:Int)<=(k:Int):=by omega
     have i3:(k:Int)<(n5:Int):=by omega
     obtain⟨A7,n7,c7,rfl⟩:=ah.is HU5;have hbw3:=HW3.out.size;have U4:¬g5=W3.heap.size:=by omega
     have HD2:=hid HD;have HU6:=hid HU5;have HKZ:=hid hkz;clear hc5 hB hkf HU5 hkz HD HK;go_upto_region 13 with(fail)
     refine aj (λW4 hW4=>?_);obtain⟨hb4,hq4,-⟩:=au hW4;clear hW4;have HB4:=hid (HB3.out.trans (hb4.mono HB3.out.size));have HW4:=hid (HW3.out.below hb4);obtain⟨⟨b0,b1⟩,-⟩:=hq4.k2;clear hb4 hq4 a0 a1;go_wp2_with fail;refine(FQ (w.heap.size+2) (w.heap.size+1) out _ yt HKZ.out W4 HW4.out.ptr HW4.out.mrk (ah.below HU6.out HW4.out.bel (λ_ _ h=>h))).mono ?_;rintro e W5⟨rfl,q,rfl⟩;obtain⟨HT,HHT⟩:∃ HT,Hid (Chk.pK out yt=HT):=⟨_,hid rfl⟩;rw[HHT.out]at HD2 ⊢;have HB5:=hid (below_drewN HB4.out q);clear b0 b1;cases HT with
     |false =>
      have HK1:Hid (m+(rf.drop (k+1)).countP (λx=>Chk.pK out x.type)=N):=hid (by have:=HD2.out;simpa using this);go_wp2_with fail;go_roundw
      case rel=>exact⟨k+1,m,by omega,by go_num,rfl,by omega,HK1,HB5⟩
      case measure=>simp[intOf];omega
     |true =>
      have HK1:Hid (m+1+(rf.drop (k+1)).countP (λx=>Chk.pK out x.type)=N):=hid (by have:=HD2.out;simp at this;omega);go_wp2_with fail;go_roundw
      case rel=>exact⟨k+1,m+1,by omega,by go_num,by go_num,by omega,HK1,HB5⟩
      case measure=>simp[intOf];omega
end
section
open Go.BigFrame
namespace Chk
open Id
abbrev Test:=Bool × ByteArray
def run(e:Nat):List Test->Flt->Flt
 |[],f=>f
 |t::l,f=>run e l (at_ t.1 t.2 e f)
theorem jq(e:Nat):∀(a b:List Test)(f:Flt),run e (a++b) f=run e b (run e a f)
 |[],_,_=>rfl
 |t::a,b,f=>jq e a b _
theorem qG{α:Type}(g:α->List Test){l:List α}{k:Nat}(h:k<l.length):(l.drop k).flatMap g=g l[k]++(l.drop (k+1)).flatMap g:=by
 rw[xQ h];rfl
theorem Dt{α:Type}(g:α->List Test){l:List α}{k:Nat}(h:l.length<=k):(l.drop k).flatMap g=[]:=by
 rw[xP h];rfl
structure In(w0 w wr:World)(f:Nat)(S:Array Value):Prop where
 b0:Below w0.heap.size w0 wr
 gb:w.grownBy wr (some f)
 box:Bk wr w.heap.size 28 S
 lo:w0.heap.size<=f
 hi:f<w.heap.size
section
variable {w0 w wr w' : World} {f : Nat} {S : Array Value} {cur : Flt}
theorem In.size(h:In w0 w wr f S):w.heap.size+1<=wr.heap.size:=h.box.lt
theorem In.call(h:In w0 w wr f S)(hg:wr.grownBy w' (some f)):In w0 w w' f S :=
 ⟨jr h.b0 hg h.lo h.b0.size,vO h.gb hg,h.box.grown hg (by have:=h.hi;intro e;injection e with e;omega),h.lo,h.hi⟩
theorem In.below(h:In w0 w wr f S)(hb:Below wr.heap.size wr w'):In w0 w w' f S:=h.call (pO hb _)
theorem In.start(hb:Below w0.heap.size w0 w)(hlo:w0.heap.size<=f)(hhi:f<w.heap.size)(h:wr=w.alloc (.cells S 28)):In w0 w wr f S:=by
 subst h;exact⟨hb.alloc hb.size _,pO ((Below.refl _ _).alloc (xB _) _) _,Bk.new _ _ _,hlo,hhi⟩
theorem Fb.below(h:Fb wr f cur)(hb:Below wr.heap.size wr w'):Fb w' f cur:=Bk.below h hb (Bk.lt h)
theorem Fb.start(h:Fb w f cur)(he:wr=w.alloc (.cells S 28)):Fb wr f cur:=by
 subst he;exact Bk.alloc h _
end
end Chk
theorem Chk.aN{wr:World}{f g:Nat}{cur:Chk.Flt}{t:TypeId}{cs:Array Value}(h:Chk.Fb wr f cur)(hg:Bk wr g t cs)(ht:t≠88):some g≠some f:=by
 intro e;injection e with e
 subst e;unfold Chk.Fb Bk at *;rw[h]at hg;injection hg with hg
 injection hg with _ h2
 exact ht h2.symm
theorem Chk.bP{w0 w wr w':World}{f:Nat}{S:Array Value}{cur:Chk.Flt}(h:Chk.In w0 w wr f S)(hf:Chk.Fb wr f cur)(hb:Below wr.heap.size wr w')(right:Bool)(wh:ByteArray)(e:Nat) :
  Calls Tryz.prog 104 #[.pointer (some ⟨f,0,none⟩),.bool right,.string wh,.int .i64 e] w' λx w''=>x=.returned (.tuple #[])/\wr.grownBy w'' (some f)/\Chk.In w0 w w'' f S/\Chk.Fb w'' f (Chk.at_ right wh e cur) :=
 (QD f right wh e cur w' (hf.below hb)).mono λx w'' ⟨h1,h2,h3⟩=>⟨h1,vO (pO hb _) h2,(h.below hb).call h2,h3⟩
namespace Chk
def eU(x:Id.Sch):List Test:=x.sagas.flatMap λg=>[(order x g.arg,g.name)]
end Chk
theorem JO(v:Value)(x:Id.Sch)(hF:Chk.Small x)(f:Nat)(cur:Chk.Flt)(w0 w:World)(hv:Id.ay w0 none v x)(hb:Below w0.heap.size w0 w)(hlo:w0.heap.size<=f)(hf:Chk.Fb w f cur) :
  Calls Tryz.prog 45 #[v,.pointer (some ⟨f,0,none⟩)] w λe w'=>e=.returned (.tuple #[])/\w.grownBy w' (some f)/\Chk.Fb w' f (Chk.run 240 (Chk.eU x) cur):=by
 obtain⟨R,HR⟩:∃ R,Hid (Chk.run 240 (Chk.eU x) cur=R):=⟨_,hid rfl⟩;rw[HR.out];have HV:=hid hv;obtain⟨A1,n1,c1,A2,n2,c2,A3,n3,c3,rfl,-,-,r3⟩:=hv;have hn3:n3=x.sagas.length:=by obtain⟨_,_,e,_⟩:=ah.slice r3;injection e
 have hm3:n3<=9223372036854775807:=by obtain⟨_,_,e,_,_⟩:=ah.slice r3;injection e;omega
 have HN3:=hid hn3;have H3:=hid r3;have HF0:=hid hf;have HB0:=hid hb;clear r3 hn3 hf hb;go_enter Tryz.func45,Tryz.ntmps45;go_upto_region 1 with(fail)
 refine aj (λW0 hW0=>?_);have HI0:=hid (Chk.In.start HB0.out hlo (Bk.lt HF0.out) hW0);have HF1:=hid (Chk.Fb.start HF0.out hW0);clear hW0;obtain⟨⟨q0,q1,q2,q3⟩,-⟩:=HI0.out.box.k4;go_wp2_with fail;clear q0 q1 q2 q3;go_loopw [9] (λi wr=>∃(k:Nat)(cu:Chk.Flt),k<=n3/\i=.int .i64 k/\Hid (Chk.run 240 ((x.sagas.drop k).flatMap λg=>[(Chk.order x g.arg,g.name)]) cu=R)/\Hid (Chk.In w0 w wr f #[.string x.name,.slice A1 n1 c1,.slice A2 n2 c2,.slice A3 n3 c3])/\Hid (Chk.Fb wr f cu)) (λi _=>n3 - (intOf i).toNat)
 case atStart=>exact⟨0,cur,by omega,rfl,HR,HI0,HF1⟩
 case round =>
  obtain⟨k,cu,hk,rfl,HK,HI,HFb⟩:=hrel;obtain⟨Wk,rfl⟩:∃ w',w'=wr:=⟨_,rfl⟩;by_cases hlt:k<n3
  case neg =>
   obtain rfl:k=n3:=by omega
   have HE:Hid (cu=R):=hid (by rw[<-HK.out,Chk.Dt _ (by rw[HN3.out];exact xB _)];rfl);go_wp2_with fail;refine bodyPost_end (results_none rfl _ _ _) rfl ?_;exact⟨rfl,HI.out.gb,by rw[<-HE.out];exact HFb.out⟩
  have hka:k<x.sagas.length:=by rw[<-HN3.out];exact hlt
  obtain⟨g,off,cs,rfl,-,⟨u,rfl,HU⟩,hc⟩:=ah.get H3.out hka (by omega);have HD:=HK.out;rw[Chk.qG _ hka]at HD;generalize x.sagas[k]=r at *;obtain⟨rn,ra,rf⟩:=r;simp only at HU hc HD;have hB:=HI.out.b0;have a0:=hc 0 _ rfl;have a1:=hc 1 _ rfl;have a2:=hc 2 _ rfl;have hgl:g<w0.heap.size:=xH w0 _ a0;have a0:=(hB.cell hgl).trans a0;have a1:=(hB.cell hgl).trans a1;have a2:=(hB.cell hgl).trans a2;simp only[xK]at a0;have i0:(0:Int)<=(k:Int):=by omega
  have i1:(k:Int)<(n3:Int):=by omega
  obtain⟨A5,n5,c5,rfl⟩:=ah.is HU;have hbw:=hB.size;have hgw:¬g=Wk.heap.size:=by omega
  have HD2:=hid HD;clear hc hB hka HU HD HK;go_upto_region 4 with(fail)
  refine aj (λW1 hW1=>?_);obtain⟨hb1,hq1,-⟩:=au hW1;clear hW1;have HI1:=hid (HI.out.below hb1);have Uk:=hid (HFb.out.below hb1);have hB1:=HI1.out.box;clear hb1 a0 a1 a2;refine Lst.dh W1 (Bl.refl W1) (by simp only[yA,xZ];rfl) (by kernel_rfl) (by kernel_rfl) (by kernel_rfl) rfl ?_;simp only[yC,yB];have hS:∀ w',Bl W1 w'->Bk w' w.heap.size 28 #[.string x.name,.slice A1 n1 c1,.slice A2 n2 c2,.slice (some ⟨g,off,none⟩) n3 c3]:=λw' hb=>hB1.below hb hB1.lt
  have hq:∀ w',Bl W1 w'->Bk w' Wk.heap.size 105 #[.string rn,.string ra,.slice A5 n5 c5]:=λw' hb=>hq1.below hb hq1.lt
  have d0:∀ w',Bl W1 w'->w'.cell? ⟨Wk.heap.size,0,none⟩=some (.string rn):=λw' hb=>(hq w' hb).cell 0
  have d1:∀ w',Bl W1 w'->w'.cell? ⟨Wk.heap.size,1,none⟩=some (.string ra):=λw' hb=>(hq w' hb).cell 1
  have hO:∀ w',Bl W1 w'->Calls Tryz.prog 112 #[.agg #[.string x.name,.slice A1 n1 c1,.slice A2 n2 c2,.slice (some ⟨g,off,none⟩) n3 c3],.string ra] w' λe w''=>e=.returned (.bool (Chk.order x ra))/\Bl W1 w'':=λw' hb=>fG hb (vW _ x ra hF w' (Id.ay.below (HI1.out.b0.trans (Below.mono hb HI1.out.b0.size)) HV.out))
  repeat(first|go_big_quiet_step((intro hb;exact hO _ hb))|(refine wpQuiet_step (λK hK=>?_);rw[if_pos (by rfl)];refine dw _ _ rfl _ rfl _ _ _ (by assumption) Tryz.underlying28 rfl (by kernel_rfl) ?_;go_simp;refine hK _ ?_;clear hK K)|(refine wpQuiet_step (λK hK=>?_);rw[if_pos (by rfl)];refine Lst.aF _ _ rfl _ rfl _ (by assumption) _ Tryz.underlying9 rfl ?_;go_simp;refine hK _ ?_;clear hK K)|(refine wpQuiet_step (λK hK=>?_);go_simp;refine⟨_,λ_ _=>rfl,hK _ ?_⟩;clear hK K))
  refine wpQuiet_nil ?_;intro W2 hW2 K hK;have HAT:=hid (Chk.bP HI1.out Uk.out hW2 (Chk.order x ra) rn 240);clear hO d0 d1 hq hS hB1 hq1;go_simp;refine HAT.out.mono ?_;rintro e W3⟨rfl,hg3,hi3,hf3⟩;refine hK _ _ ?_;have HI3:=hid hi3;have HF3:=hid hf3;have HK3:Hid (Chk.run 240 ((x.sagas.drop (k+1)).flatMap λg=>[(Chk.order x g.arg,g.name)]) (Chk.at_ (Chk.order x ra) rn 240 cu)=R):=hid (by rw[<-HD2.out];rfl);clear hK K HAT hi3 hf3 hg3;go_wp2_with fail;go_roundw
  case rel=>exact⟨k+1,_,by omega,by go_num,HK3,HI3,HF3⟩
  case measure=>simp[intOf];omega
namespace Chk
open Id
structure Fine(x:Sch):Prop where
 nm:x.name.size<=1000
 recs:x.records.length<=1000
 kU:x.services.length<=1000
 kV:x.sagas.length<=1000
 re:∀ r∈x.records,r.name.size<=1000/\r.fields.length<=99/\∀ f∈r.fields,f.name.size<=1000/\f.type.length<=1000/\∀ t∈f.type,t.name.size<=1000
 sv:∀ v∈x.services,v.name.size<=1000/\v.methods.length<=99/\∀ m∈v.methods,m.name.size<=1000/\m.arg.size<=1000/\m.effect.size<=1000/\m.undo.size<=1000
 sa:∀ g∈x.sagas,g.name.size<=1000/\g.steps.length<=99/\g.arg.size<=1000/\∀ p∈g.steps,p.service.size<=1000/\p.method.size<=1000
structure Mid(x:Sch):Prop where
 nm:x.name.size<=10000
 recs:x.records.length<=10000
 kU:x.services.length<=10000
 kV:x.sagas.length<=10000
 re:∀ r∈x.records,r.name.size<=10000/\r.fields.length<=99/\∀ f∈r.fields,f.name.size<=10000/\f.type.length<=10000/\∀ t∈f.type,t.name.size<=10000
 sv:∀ v∈x.services,v.name.size<=10000/\v.methods.length<=99/\∀ m∈v.methods,m.name.size<=10000/\m.arg.size<=10000/\m.effect.size<=10000/\m.undo.size<=10000
 sa:∀ g∈x.sagas,g.name.size<=10000/\g.steps.length<=99/\g.arg.size<=10000/\∀ p∈g.steps,p.service.size<=10000/\p.method.size<=10000
structure BU(x:Sch):Prop where
 nm:x.name.size<=10000
 recs:x.records.length<=10000
 kU:x.services.length<=10000
 kV:x.sagas.length<=10000
 re:∀ r∈x.records,r.name.size<=10000/\r.fields.length<=10000/\∀ f∈r.fields,f.name.size<=10000/\f.type.length<=10000/\∀ t∈f.type,t.name.size<=10000
 sv:∀ v∈x.services,v.name.size<=10000/\v.methods.length<=10000/\∀ m∈v.methods,m.name.size<=10000/\m.arg.size<=10000/\m.effect.size<=10000/\m.undo.size<=10000
 sa:∀ g∈x.sagas,g.name.size<=10000/\g.steps.length<=10000/\g.arg.size<=10000/\∀ p∈g.steps,p.service.size<=10000/\p.method.size<=10000
theorem Fine.mid{x:Sch}(h:Fine x):Mid x:=by
 refine⟨xM h.nm (by decide),xM h.recs (by decide),xM h.kU (by decide),xM h.kV (by decide),?_,?_,?_⟩
 ·intro r hr
  obtain⟨a,b,c⟩:=h.re r hr;refine⟨by omega,b,λf hf=>?_⟩;obtain⟨d,e,g⟩:=c f hf;exact⟨by omega,by omega,λt ht=>xM (g t ht) (by decide)⟩
 ·intro v hv
  obtain⟨a,b,c⟩:=h.sv v hv;refine⟨by omega,b,λm hm=>?_⟩;obtain⟨d,e,g,i⟩:=c m hm;exact⟨by omega,by omega,by omega,by omega⟩
 ·intro g hg
  obtain⟨a,b,c,d⟩:=h.sa g hg;refine⟨by omega,b,by omega,λp hp=>?_⟩;obtain⟨e,f⟩:=d p hp;exact⟨by omega,by omega⟩
theorem Mid.wide{x:Sch}(h:Mid x):BU x:=by
 refine⟨h.nm,h.recs,h.kU,h.kV,λr hr=>?_,λv hv=>?_,λg hg=>?_⟩
 ·obtain⟨a,b,c⟩:=h.re r hr
  exact⟨a,xM b (by decide),c⟩
 ·obtain⟨a,b,c⟩:=h.sv v hv
  exact⟨a,xM b (by decide),c⟩
 ·obtain⟨a,b,c⟩:=h.sa g hg
  exact⟨a,xM b (by decide),c⟩
theorem Mid.small{x:Sch}(h:Mid x):Small x:=λr hr=>⟨xM (h.re r hr).2.1 (by decide),λf hf=>((h.re r hr).2.2 f hf).2.1⟩
theorem Fine.small{x:Sch}(h:Fine x):Small x:=h.mid.small
theorem dY{α:Type}(e:Nat)(g:α->List Test){l:List α}{k:Nat}(h:k<l.length){f:Flt}:run e ((l.drop k).flatMap g) f=run e ((l.drop (k+1)).flatMap g) (run e (g l[k]) f):=by
 rw[qG g h,jq]
theorem dZ{α:Type}(e:Nat)(g:α->List Test){l:List α}{k:Nat}(h:l.length<=k){f:Flt}:run e ((l.drop k).flatMap g) f=f:=by
 rw[Dt g h];rfl
def nm(s:ByteArray):Test:=(Tk.isName s,s)
def qF(y:Fld):List Test:=[nm y.name]
def oM(y:Mth):List Test:=[nm y.name]
def jR(r:Rec):List Test:=nm r.name::r.fields.flatMap qF
def dQ(v:Svc):List Test:=nm v.name::v.methods.flatMap oM
def dK(g:Sag):List Test:=[nm g.name]
def namesT(x:Sch):List Test:=(Tk.isName x.name,⟨#[]⟩)::(x.records.flatMap jR++(x.services.flatMap dQ++x.sagas.flatMap dK))
def nH(r:Rec):List Test:=[(decide ((r.fields.length:Int)<=16),r.name)]
def je(v:Svc):List Test:=[(decide ((v.methods.length:Int)<=16),v.name)]
def dG(g:Sag):List Test:=[(decide (1<=(g.steps.length:Int))&&decide ((g.steps.length:Int)<=8),g.name)]
def gQ(x:Sch):List Test:=(decide ((x.records.length:Int)+x.services.length+x.sagas.length<=64),⟨#[]⟩)::(x.records.flatMap nH++(x.services.flatMap je++x.sagas.flatMap dG))
def nN(x:Sch)(rn:ByteArray)(y:Fld):List Test:=[(right x y.type,part rn y.name)]
def eH(x:Sch)(r:Rec):List Test:=r.fields.flatMap (nN x r.name)
def jW(rn:ByteArray)(m:Mth):List Test:=[(m.result==3||m.result==1,part rn m.name)]
def bZ(v:Svc):List Test:=v.methods.flatMap (jW v.name)
def kJ(x:Sch):List Test:=x.records.flatMap (eH x)++x.services.flatMap bZ
noncomputable def lF(x:Sch)(r:Rec):List Test:=[(pz x.records r.name,r.name)]
noncomputable def jE(x:Sch):List Test:=x.records.flatMap (lF x)
def jd(x:Sch)(rn:ByteArray)(m:Mth):List Test:=[(!(contrary m.effect).toList.isEmpty&&order x m.arg,part rn m.name)]
def fU(x:Sch)(v:Svc):List Test:=v.methods.flatMap (jd x v.name)
def bU(x:Sch):List Test:=x.services.flatMap (fU x)
def jh(m u:Mth):Bool:=u.arg.toList==m.arg.toList&&u.undo.toList.isEmpty&&u.result==1&&u.effect.toList==(contrary m.effect).toList
def jO(x:Sch)(rn:ByteArray)(m:Mth):Bool:=match meth x rn m.undo with
 |none=>false
 |some u=>jh m u
def dP(x:Sch)(rn:ByteArray)(m:Mth):List Test:=[(m.undo.toList.isEmpty||jO x rn m,part rn m.name)]
def iY(x:Sch)(v:Svc):List Test:=v.methods.flatMap (dP x v.name)
def nM(x:Sch):List Test:=x.services.flatMap (iY x)
def stepOf(ra:ByteArray)(p:Stp)(m:Mth):Bool:=m.arg.toList==ra.toList&&decide (0<=p.at_)&&decide (p.at_<4)
def ji(x:Sch)(ra:ByteArray)(p:Stp):Bool:=match meth x p.service p.method with
 |none=>false
 |some m=>stepOf ra p m
def iR(x:Sch)(rn ra:ByteArray)(p:Stp × Nat):List Test:=[(ji x ra p.1,nth rn p.2)]
def iT(x:Sch)(g:Sag):List Test:=g.steps.zipIdx.flatMap (iR x g.name g.arg)
def cZ(x:Sch):List Test:=x.sagas.flatMap (iT x)
def qc(x:Sch)(n:Nat)(p:Stp × Nat):Bool:=p.2+1==n||!((meth x p.1.service p.1.method).getD oz).undo.toList.isEmpty
def lS(x:Sch)(rn:ByteArray)(n:Nat)(p:Stp × Nat):List Test:=[(qc x n p,nth rn p.2)]
def jU(x:Sch)(g:Sag):List Test:=g.steps.zipIdx.flatMap (lS x g.name g.steps.length)
def dH(x:Sch):List Test:=x.sagas.flatMap (jU x)
theorem fC{w0 w wr:World}{f:Nat}{S S':Array Value}(h:S=S')(hi:In w0 w wr f S):∀ w',Bl wr w'->Bk w' w.heap.size 28 S':=λw' hb=>h ▸ (hi.box.below hb hi.box.lt)
end Chk
end
