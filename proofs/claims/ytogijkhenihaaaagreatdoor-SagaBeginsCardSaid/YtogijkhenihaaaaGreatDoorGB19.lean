import Derived.Test.YtogijkhenihaaaaGreatDoorGB04
import Derived.Test.YtogijkhenihaaaaGreatDoorGB18
set_option linter.all false
set_option maxRecDepth 100000
set_option maxHeartbeats 0
namespace Go.Proofs.YtogijkhenihaaaaGreatDoor
open Lib (hid)
namespace Sd
open Id Chk Ev
theorem CZ:(⟨#[]⟩:ByteArray).toList.isEmpty=true:=by decide +kernel
noncomputable def dM(x:Sch)(g:ByteArray):Nat:=if(Prn.print x).2≠0 then(Prn.print x).2 else if(gq x g).isSome=true then 0 else 240
def sag(x:Sch)(g:ByteArray):Sag:=(gq x g).getD oq
noncomputable def steps(x:Sch)(g:ByteArray):Nat × Nat:=if dM x g≠0 then(0,dM x g)else((sag x g).steps.length,0)
noncomputable def letE(x:Sch)(g id:ByteArray)(i fr:Int):Nat:=if dM x g≠0 then dM x g else if idL id.data.toList=false∨fr<0∨4<=fr then 1 else if i<0∨((sag x g).steps.length:Int)<=i then 241 else 0
def stp(x:Sch)(g:ByteArray)(i:Int):Stp:=(sag x g).steps.getD i.toNat ⟨⟨#[]⟩,⟨#[]⟩,0⟩
noncomputable def base(x:Sch)(g id:ByteArray)(i fr:Int):Letter:=⟨0,fr,(stp x g i).at_,0,jF id i false,(Prn.print x).1,(stp x g i).service,(stp x g i).method,0,ByteArray.empty⟩
noncomputable def letter(x:Sch)(g id:ByteArray)(i fr:Int):Letter × Nat:=if letE x g id i fr≠0 then(Letter.zero,letE x g id i fr)else(base x g id i fr,0)
def jh(x:Sch)(l:Letter):ByteArray:=((meth x l.svc l.mth).getD oz).undo
noncomputable def call(x:Sch)(g id:ByteArray)(i:Int)(back:Bool)(fr:Int)(body:ByteArray):Letter × Nat :=
 if letE x g id i fr≠0 then(Letter.zero,letE x g id i fr)
 else if back=false then({ base x g id i fr with kind:=1,body:=body },0)
 else if(jh x (base x g id i fr)).toList.isEmpty=true then(Letter.zero,133)
 else({ base x g id i fr with kind:=1,body:=body,mth:=jh x (base x g id i fr),key:=jF id i true },0)
noncomputable def cancel(x:Sch)(g id:ByteArray)(i fr:Int):Letter × Nat:=if letE x g id i fr≠0 then(Letter.zero,letE x g id i fr)else({ base x g id i fr with kind:=3 },0)
theorem BI{x:Sch}{g id:ByteArray}{i fr:Int}(h:letE x g id i fr=0):dM x g=0/\idL id.data.toList=true/\0<=fr/\fr<4/\0<=i/\i<((sag x g).steps.length:Int):=by
 unfold letE at h;split at h
 ·rename_i h1;exact absurd h h1
 ·rename_i h1
  split at h
  ·cases h
  ·rename_i h2
   split at h
   ·cases h
   ·rename_i h3
    refine⟨by omega,?_,by omega,by omega,by omega,by omega⟩;by_cases h4:idL id.data.toList=true
    ·exact h4
    ·exact absurd (.inl (by simpa using h4)) h2
theorem OX{x:Sch}{g:ByteArray}(h:dM x g=0):(Prn.print x).2=0/\(gq x g).isSome=true/\sag x g∈x.sagas:=by
 unfold dM at h;split at h
 ·rename_i h1;exact absurd h h1
 ·rename_i h1
  split at h
  ·rename_i h2
   refine⟨by omega,h2,?_⟩;obtain⟨s,hs⟩:=Option.isSome_iff_exists.1 h2;unfold sag;rw[hs];exact List.mem_of_find?_eq_some hs
  ·cases h
theorem Gw{x:Sch}(h:(Prn.print x).2=0):Right x:=by
 unfold Prn.print at h;split at h
 ·rename_i h1;exact absurd h h1
 ·rename_i h1
  have h2:(Prn.text x).2=0:=by omega
  unfold Prn.text at h2;split at h2
  ·rename_i h3;exact absurd h2 h3
  ·rename_i h3
   exact sF (by omega)
theorem Ju{x:Sch}(hR:Right x){a b:ByteArray}{m:Mth}(h:meth x a b=some m):Tk.isName a=true/\Tk.isName b=true:=by
 have hn:=(oD.1 hR).1;unfold meth at h;split at h
 ·cases h
 ·rename_i v hv
  have hvm:=List.mem_of_find?_eq_some hv;have hvn:v.name.toList=a.toList:=by simpa using List.find?_some hv
  have hmm:=List.mem_of_find?_eq_some h;have hmn:m.name.toList=b.toList:=by simpa using List.find?_some h
  have e1:=Tk.text_eq hvn;have e2:=Tk.text_eq hmn;subst e1 e2;have hin:∀ t∈dQ v,t∈namesT x:=λt ht=>by
   unfold namesT;exact List.mem_cons_of_mem _ (List.mem_append_right _ (List.mem_append_left _ (List.mem_flatMap.2 ⟨v,hvm,ht⟩)))
  refine⟨hn (nm v.name) (hin _ (by unfold dQ;exact List.mem_cons_self)),hn (nm m.name) (hin _ ?_)⟩;unfold dQ;exact List.mem_cons_of_mem _ (List.mem_flatMap.2 ⟨m,hmm,by simp[oM]⟩)
theorem PL{x:Sch}(hR:Right x){g:Sag}(hg:g∈x.sagas){k:Nat}(hk:k<g.steps.length):0<=g.steps[k].at_/\g.steps[k].at_<4:=by
 obtain⟨_,_,_,_,_,_,_,_,hs,_⟩:=oD.1 hR;have hz:(g.steps[k],k)∈g.steps.zipIdx:=by
  rw[List.mem_iff_getElem];exact⟨k,by rw[List.length_zipIdx];exact hk,by rw[List.getElem_zipIdx,Nat.zero_add]⟩
 have h1:=hs (ji x g.arg g.steps[k],nth g.name k) (List.mem_flatMap.2 ⟨g,hg,List.mem_flatMap.2 ⟨_,hz,by simp[iR]⟩⟩);simp only at h1;unfold ji at h1;split at h1
 ·cases h1
 ·unfold stepOf at h1
  simp only[xX,decide_eq_true_eq]at h1;exact⟨h1.1.2,h1.2⟩
theorem Qi{w:ByteArray}(h:Tk.isName w=true):w.toList.isEmpty=false:=by
 cases he:w.toList.isEmpty with
 |false=>rfl
 |true =>
  exfalso
  have e:w=⟨#[]⟩:=Tk.text_eq (by rw[List.isEmpty_iff.1 he];exact(List.isEmpty_iff.1 CZ).symm);subst e;revert h
  decide +kernel
theorem NR{x:Sch}(hR:Right x){g:Sag}(hg:g∈x.sagas):g.steps.length<=8:=by
 have hc:=(oD.1 hR).2.1 (decide (1<=(g.steps.length:Int))&&decide ((g.steps.length:Int)<=8),g.name) (by
  unfold gQ;exact List.mem_cons_of_mem _ (List.mem_append_right _ (List.mem_append_right _ (List.mem_flatMap.2 ⟨g,hg,by simp[dG]⟩))))
 simp only[xX,decide_eq_true_eq]at hc;omega
structure Good(x:Sch)(g id:ByteArray)(i fr:Int):Prop where
 rt:Right x
 vI:idL id.data.toList=true
 f0:0<=fr
 f4:fr<4
 i0:0<=i
 i8:i<8
 a0:0<=(stp x g i).at_
 a4:(stp x g i).at_<4
 m:∃ m,meth x (stp x g i).service (stp x g i).method=some m/\(i+1<((sag x g).steps.length:Int)->m.undo.toList.isEmpty=false)
theorem Qr{x:Sch}{g id:ByteArray}{i fr:Int}(h:letE x g id i fr=0):Good x g id i fr:=by
 obtain⟨h1,h2,h3,h4,h5,h6⟩:=BI h;obtain⟨f1,f2,f3⟩:=OX h1;have hR:=Gw f1;have hk:i.toNat<(sag x g).steps.length:=by omega
 have hst:stp x g i=(sag x g).steps[i.toNat]:=by
  unfold stp;rw[yG,yF hk,Option.getD_some]
 have h8:=NR hR f3;obtain⟨a0,a4⟩:=PL hR f3 hk;obtain⟨m,hm,_,hu⟩:=right_step hR f3 hk;refine⟨hR,h2,h3,h4,h5,by omega,by rw[hst];exact a0,by rw[hst];exact a4,m,by rw[hst];exact hm,λhlt=>?_⟩;obtain⟨u,hum,_⟩:=hu (by omega);exact Qi (Ju hR hum).2
theorem KY{x:Sch}{g id:ByteArray}{i fr:Int}(h:letE x g id i fr=0)(hu:(jh x (base x g id i fr)).toList.isEmpty=true):i=((sag x g).steps.length:Int) - 1:=by
 obtain⟨h1,h2,h3,h4,h5,h6⟩:=BI h;obtain⟨m,hm,hul⟩:=(Qr h).m;have e:jh x (base x g id i fr)=m.undo:=by
  unfold jh;show((meth x (stp x g i).service (stp x g i).method).getD oz).undo=_
  rw[hm];rfl
 rw[e]at hu;by_cases hlt:i+1<((sag x g).steps.length:Int)
 ·rw[hul hlt]at hu
  cases hu
 ·omega
end Sd
namespace Sg
open Id Chk Ev Sd
structure Run where
 id:ByteArray
 saga:ByteArray
 arg:ByteArray
 at_:Int
 phase:Nat
 tries:Int
 stop:Bool
 why:Int
 value:ByteArray
def Run.zero:Run:=⟨⟨#[]⟩,⟨#[]⟩,⟨#[]⟩,0,0,0,false,0,⟨#[]⟩⟩
def over(r:Run):Bool:=decide (3<=r.phase)&&decide (r.phase<=5)
section
variable (A : Sch -> ByteArray -> ByteArray -> Nat) (x : Sch)
noncomputable def Es(r:Run):Nat:=(call x r.saga r.id r.at_ true 0 ⟨#[]⟩).2
noncomputable def okP(n:Int)(r:Run):Prop :=
 (r.phase=1->r.why=0)/\(r.phase=3->r.why=0/\r.at_=n - 1)/\(r.phase=4->r.why≠0/\r.at_=0)/\(r.phase=2∨r.phase=5->Es x r=0/\r.why≠0)/\1<=r.phase/\r.phase<=5
structure Rt(r:Run):Prop where
 st:(steps x r.saga).2=0
 vI:idL r.id.data.toList=true
 arg:A x r.saga r.arg=0
 a0:0<=r.at_
 an:r.at_<((steps x r.saga).1:Int)
 t0:0<=r.tries
 t29:r.tries<=29
 w0:0<=r.why
 Bo:r.why<=999
 val:r.value.size<=4096
 ph:okP x ((steps x r.saga).1:Int) r
 tb:r.phase=2∨r.phase=5∨r.tries=0
 sb:r.phase=1∨r.stop=false
 vb:r.phase=3∨r.value.toList.isEmpty=true
noncomputable def nextL(r:Run)(fr:Int):Letter:=(call x r.saga r.id r.at_ (decide (r.phase=2)) fr r.arg).1
noncomputable def back(r:Run)(fr why:Int):Run × Letter × Bool × Bool :=
 if r.at_=0 then({ r with why:=why,stop:=false,tries:=0,phase:=4 },Letter.zero,false,true)
 else({ r with why:=why,stop:=false,tries:=0,phase:=2,at_:=r.at_ - 1 },nextL x { r with why:=why,stop:=false,tries:=0,phase:=2,at_:=r.at_ - 1 } fr,true,true)
def waits(r:Run):ByteArray:=jF r.id r.at_ (decide (r.phase=2))
open Classical in
noncomputable def on(r:Run)(fr:Int):Bool:=decide (0<=fr/\fr<4)&&!over r&&decide (Rt A x r)
noncomputable def took(r:Run)(fr most:Int)(l:Letter):Run × Letter × Bool × Bool :=
 if r.phase=2 then
  if l.code=0 then back x r fr r.why
  else if most<=r.tries+1∨29<=r.tries+1 then({ r with tries:=min (r.tries+1) 29,phase:=5 },Letter.zero,false,true)
  else({ r with tries:=r.tries+1 },nextL x { r with tries:=r.tries+1 } fr,true,true)
 else if l.code≠0 then back x r fr (if l.code<0∨999<l.code then 999 else l.code)
 else if r.at_=((steps x r.saga).1:Int) - 1 then({ r with stop:=false,phase:=3,value:=l.body.extract 0 4096 },Letter.zero,false,true)
 else({ r with stop:=false,at_:=r.at_+1 },nextL x { r with stop:=false,at_:=r.at_+1 } fr,true,true)
noncomputable def reply(r:Run)(fr most:Int)(l:Letter):Run × Letter × Bool × Bool :=
 if on A x r fr=true/\l.kind=2/\l.key.toList=(waits r).toList then took x r fr most l else(r,Letter.zero,false,false)
end
section
variable {A : Sch -> ByteArray -> ByteArray -> Nat} {x : Sch}
theorem yN{g:ByteArray}(h:(steps x g).2=0):dM x g=0:=by
 unfold steps at h;split at h
 ·exact h
 ·rename_i h1
  omega
theorem Ld{g:ByteArray}(h:(steps x g).2=0):(steps x g).1=(sag x g).steps.length:=by
 have:=yN h;unfold steps;rw[if_neg (by simp[this])]
theorem QU{g id:ByteArray}{i:Int}(h:(steps x g).2=0)(hi:idL id.data.toList=true)(h0:0<=i)(hn:i<((steps x g).1:Int) - 1):(call x g id i true 0 ⟨#[]⟩).2=0:=by
 have hf:=yN h;have hl:=Ld h;have hE:letE x g id i 0=0:=by
  unfold letE;rw[if_neg (by simp[hf]),if_neg (by simp[hi]),if_neg (by rw[<-hl];omega)]
 unfold call;rw[if_neg (by simp[hE]),if_neg (by simp)];split
 ·rename_i hu
  have:=KY hE hu;rw[<-hl]at this;omega
 ·rfl
theorem Bd{r:Run}(h:Rt A x r)(h5:r.phase=1∨r.phase=2)(h3:r.value.toList.isEmpty=true){fr why:Int}(hw:1<=why)(hw2:why<=999):Rt A x (back x r fr why).1:=by
 unfold back;have a0:=h.a0;have an:=h.an;split
 ·rename_i h0
  exact⟨h.st,h.vI,h.arg,h.a0,h.an,Int.le_refl 0,(by show(0:Int)<=29;decide),by show 0<=why;omega,hw2,h.val,⟨λe=>(by cases e),λe=>(by cases e),λ_=>⟨by show why≠0;omega,h0⟩,λe=>(by rcases e with e|e<;>cases e),(by show 1<=4;decide),(by show 4<=5;decide)⟩,.inr (.inr rfl),.inr rfl,.inr h3⟩
 ·rename_i h0
  exact⟨h.st,h.vI,h.arg,by show 0<=r.at_ - 1;omega,by show r.at_ - 1<((steps x r.saga).1:Int);omega,Int.le_refl 0,(by show(0:Int)<=29;decide),by show 0<=why;omega,hw2,h.val,⟨λe=>(by cases e),λe=>(by cases e),λe=>(by cases e),λ_=>⟨QU h.st h.vI (show 0<=r.at_ - 1 by omega) (show r.at_ - 1<((steps x r.saga).1:Int) - 1 by omega),by show why≠0;omega⟩,(by show 1<=2;decide),(by show 2<=5;decide)⟩,.inl rfl,.inr rfl,.inr h3⟩
theorem zW{r:Run}(h:Rt A x r)(ho:over r=false){fr most:Int}{l:Letter}:Rt A x (took x r fr most l).1:=by
 obtain⟨p1,p3,p4,p2,q1,q5⟩:=h.ph;have hv:r.phase≠3:=by
  intro e;unfold over at ho;rw[e]at ho;cases ho
 have h12:r.phase=1∨r.phase=2:=by
  unfold over at ho;simp only[Bool.and_eq_false_iff,decide_eq_false_iff_not]at ho;omega
 have h3:r.value.toList.isEmpty=true:=h.vb.resolve_left hv;have a0:=h.a0;have an:=h.an;have w0:=h.w0;have w9:=h.Bo;unfold took;split
 ·rename_i e2
  have hu:=p2 (.inl e2);have:=h.t0;split
  ·exact Bd h h12 h3 (by omega) w9
  ·split
   ·exact⟨h.st,h.vI,h.arg,h.a0,h.an,by show 0<=min (r.tries+1) 29;omega,by show min (r.tries+1) 29<=29;omega,h.w0,h.Bo,h.val,⟨λe=>(by cases e),λe=>(by cases e),λe=>(by cases e),λ_=>hu,(by show 1<=5;decide),(by show 5<=5;decide)⟩,.inr (.inl rfl),.inr (by rcases h.sb with e|e;omega;exact e),.inr h3⟩
   ·exact⟨h.st,h.vI,h.arg,h.a0,h.an,by show 0<=r.tries+1;omega,by show r.tries+1<=29;omega,h.w0,h.Bo,h.val,⟨p1,p3,p4,p2,q1,q5⟩,.inl e2,h.sb,.inr h3⟩
 ·have e1:r.phase=1:=by omega
  split
  ·refine Bd h h12 h3 ?_ ?_
   ·split<;>omega
   ·split<;>omega
  ·split
   ·rename_i hl
    refine⟨h.st,h.vI,h.arg,h.a0,h.an,h.t0,h.t29,h.w0,h.Bo,?_,⟨λe=>(by cases e),λ_=>⟨p1 e1,hl⟩,λe=>(by cases e),λe=>(by rcases e with e|e<;>cases e),(by show 1<=3;decide),(by show 3<=5;decide)⟩,?_,.inr rfl,.inl rfl⟩
    ·show(l.body.extract 0 4096).size<=4096
     simp;omega
    ·rcases h.tb with e|e|e
     ·omega
     ·omega
     ·exact .inr (.inr e)
   ·rename_i hl
    refine⟨h.st,h.vI,h.arg,by show 0<=r.at_+1;omega,by show r.at_+1<((steps x r.saga).1:Int);omega,h.t0,h.t29,h.w0,h.Bo,h.val,⟨p1,λe=>absurd e hv,λe=>(by have:r.phase=4:=e;omega),λe=>(by have:r.phase=2∨r.phase=5:=e;omega),q1,q5⟩,h.tb,.inl e1,.inr h3⟩
end
end Sg
namespace Sg
open Id Chk Ev Sd
section
variable {A : Sch -> ByteArray -> ByteArray -> Nat} {x : Sch}
theorem O4{r:Run}(h:Rt A x r)(ho:over r=false):r.phase=1∨r.phase=2:=by
 obtain⟨-,-,-,-,q1,q5⟩:=h.ph;unfold over at ho;simp only[Bool.and_eq_false_iff,decide_eq_false_iff_not]at ho;omega
end
end Sg
namespace Sg
open Id Chk Ev Sd
noncomputable def begin_(A:Sch->ByteArray->ByteArray->Nat)(x:Sch)(g id:ByteArray)(fr:Int)(b:ByteArray):Run × Letter × Nat :=
 if(call x g id 0 false fr b).2≠0 then(Run.zero,Letter.zero,(call x g id 0 false fr b).2)
 else if A x g b≠0 then(Run.zero,Letter.zero,A x g b)
 else(⟨id,g,b,0,1,0,false,0,⟨#[]⟩⟩,(call x g id 0 false fr b).1,0)
section
variable {A : Sch -> ByteArray -> ByteArray -> Nat} {x : Sch}
theorem Ph{g id b:ByteArray}{fr:Int}(h:(begin_ A x g id fr b).2.2=0):(begin_ A x g id fr b).1=⟨id,g,b,0,1,0,false,0,⟨#[]⟩⟩/\Rt A x ⟨id,g,b,0,1,0,false,0,⟨#[]⟩⟩:=by
 unfold begin_ at h ⊢;split at h
 ·rename_i h1;exact absurd h h1
 ·rename_i h1
  split at h
  ·rename_i h2;exact absurd h h2
  ·rename_i h2
   rw[if_neg h1,if_neg h2];refine⟨rfl,?_⟩;have hE:letE x g id 0 fr=0:=by
    by_cases hz:letE x g id 0 fr=0
    ·exact hz
    ·unfold call at h1
     rw[if_pos hz]at h1;exact absurd hz h1
   obtain⟨f1,f2,f3,f4,f5,f6⟩:=BI hE;have hs:steps x g=((sag x g).steps.length,0):=by
    unfold steps;rw[if_neg (by simp[f1])]
   have hA:A x g b=0:=by omega
   refine⟨by rw[hs],f2,hA,Int.le_refl 0,by rw[hs];exact f6,Int.le_refl 0,(by show(0:Int)<=29;decide),Int.le_refl 0,(by show(0:Int)<=999;decide),(by show(0:Nat)<=4096;decide),⟨λ_=>rfl,λe=>(by cases e),λe=>(by cases e),λe=>(by rcases e with e|e<;>cases e),xB 1,(by show 1<=5;decide)⟩,.inr (.inr rfl),.inl rfl,.inr CZ⟩
theorem Qg{r:Run}(h:Rt A x r)(ho:over r=false){fr:Int}(h0:0<=fr)(h4:fr<4):on A x r fr=true:=by
 unfold on;simp only[ho,Bool.not_false,Bool.and_true,xX,decide_eq_true_eq];exact⟨⟨h0,h4⟩,h⟩
theorem vC{r:Run}(h:Rt A x r)(ho:over r=false){fr most:Int}(h0:0<=fr)(h4:fr<4){l:Letter}(hk:l.kind=2)(hy:l.key.toList=(waits r).toList):reply A x r fr most l=took x r fr most l:=by
 unfold reply;rw[if_pos ⟨Qg h ho h0 h4,hk,hy⟩]
end
end Sg
section
open Go.BigFrame Go.RowKit
namespace Sd
open Id Chk Ev
noncomputable def gOf(x:Sch)(g:ByteArray):Sag:=if dM x g=0 then sag x g else oq
noncomputable def pOf(x:Sch)(g:ByteArray):Nat:=if dM x g=0 then(Prn.print x).1 else 0
theorem L6(w:World)(b:Nat):xw w (some b) (.agg #[.string ⟨#[]⟩,.string ⟨#[]⟩,.slice none 0 0]) oq:=⟨_,rfl,ah.nil _ _ _ _ _⟩
theorem NW{w:World}{b B:Nat}{v:Value}{g:Sag}(hb:B<=b)(h:xw w (some b) v g):xw w (some B) v g:=by
 obtain⟨u,e,hs⟩:=h;exact⟨u,e,ah.mono hs (λ_ _ hr=>hr.weak (λb' e'=>by injection e' with e';exact⟨b,rfl,by omega⟩)) (λ_ _ h=>h)⟩
theorem E5{w:World}{b:Nat}{T:TypeId}{x0 x1 x2 y0 y1 y2:Value}(h:Bk w b T #[x0,x1,x2]):Bk (((w.setCell ⟨b,0,none⟩ y0).setCell ⟨b,1,none⟩ y1).setCell ⟨b,2,none⟩ y2) b T #[y0,y1,y2]:=((h.aA 0 y0).aA 1 y1).aA 2 y2
theorem bel3{w:World}{B b:Nat}{V:World}{y0 y1 y2:Value}(h:Below B V w)(hb:B<=b):Below B V (((w.setCell ⟨b,0,none⟩ y0).setCell ⟨b,1,none⟩ y1).setCell ⟨b,2,none⟩ y2):=((h.setCell (p:=⟨b,0,none⟩) hb _).setCell (p:=⟨b,1,none⟩) hb _).setCell (p:=⟨b,2,none⟩) hb _
theorem CB{w:World}{b B:Nat}{T:TypeId}{x0 x1 x2 y0 y1 y2 v:Value}{g:Sag}(hT:T≠184)(h:Bk w b T #[x0,x1,x2])(hs:xw w (some B) v g):xw (((w.setCell ⟨b,0,none⟩ y0).setCell ⟨b,1,none⟩ y1).setCell ⟨b,2,none⟩ y2) (some B) v g:=by
 obtain⟨u,e,hr⟩:=hs;have hn:T ∉ [184]:=by simpa using hT
 have k1:Kp B [184] w (w.setCell ⟨b,0,none⟩ y0):=(Only.set h 0 y0).kp B hn;have k2:Kp B [184] (w.setCell ⟨b,0,none⟩ y0) ((w.setCell ⟨b,0,none⟩ y0).setCell ⟨b,1,none⟩ y1):=(Only.set (h.aA 0 y0) 1 y1).kp B hn;have k3:Kp B [184] ((w.setCell ⟨b,0,none⟩ y0).setCell ⟨b,1,none⟩ y1) (((w.setCell ⟨b,0,none⟩ y0).setCell ⟨b,1,none⟩ y1).setCell ⟨b,2,none⟩ y2):=(Only.set ((h.aA 0 y0).aA 1 y1) 2 y2).kp B hn;exact⟨u,e,ah.kp hr (k1.trans (k2.trans k3)) (xB _) (by simp) (λ_ _ h=>h)⟩
end Sd
theorem Ad(sv:Value)(x:Id.Sch)(hF:Chk.Fine x)(g:ByteArray)(w:World)(hk:Tk.KW w)(hv:Id.ay w none sv x) :
  Calls Tryz.prog 75 #[sv,.string g] w λe w'=>∃ v,e=.returned (.tuple #[v,.int .u64 (Sd.pOf x g:Nat),.int .i64 (Sd.dM x g:Nat)])/\Below w.heap.size w w'/\Chk.xw w' (some w.heap.size) v (Sd.gOf x g):=by
 obtain⟨FE,HFE⟩:∃ F,Hid (Sd.dM x g=F):=⟨_,hid rfl⟩;obtain⟨FP,HFP⟩:∃ F,Hid (Sd.pOf x g=F):=⟨_,hid rfl⟩;obtain⟨FG,HFG⟩:∃ F,Hid (Sd.gOf x g=F):=⟨_,hid rfl⟩;rw[HFE.out,HFP.out,HFG.out];unfold Sd.pOf at HFP;unfold Sd.gOf at HFG;rw[HFE.out]at HFP HFG;unfold Sd.dM at HFE;obtain⟨⟨p,pe⟩,HP⟩:∃ q,Hid (Prn.print x=q):=⟨_,hid rfl⟩;rw[HP.out]at HFE HFP;simp only at HFE HFP;have HF:=hid hF;have HKW:=hid hk;have HV:=hid hv;obtain⟨A1,n1,c1,A2,n2,c2,A3,n3,c3,rfl,-,-,-⟩:=hv;clear hF hk;go_enter Tryz.func75,Tryz.ntmps75;go_upto_region 1 with(fail)
 refine aj (λV hV=>?_);have HL:Hid (Chk.Lx w V #[.string x.name,.slice A1 n1 c1,.slice A2 n2 c2,.slice A3 n3 c3]):=hid (by subst hV;exact⟨((Below.refl _ _).alloc (xB _) _).alloc (by simp) _,(Bk.new w _ _).alloc _⟩);have HQ:Hid (Bk V (w.heap.size+1) 105 #[.string ⟨#[]⟩,.string ⟨#[]⟩,.slice none 0 0]):=hid (by subst hV;have h:=Bk.new (w.alloc (.cells #[.string x.name,.slice A1 n1 c1,.slice A2 n2 c2,.slice A3 n3 c3] 28)) 105 #[.string ⟨#[]⟩,.string ⟨#[]⟩,.slice none 0 0];rw[World.size_alloc]at h;exact h);clear hV;obtain⟨⟨q0,q1,q2,q3⟩,-⟩:=HL.out.box.k4;go_wp2_with fail;refine(Jq _ x HF.out _ (HKW.out.below HL.out.bel) (Id.ay.below HL.out.bel HV.out)).mono ?_;rw[HP.out];rintro e W1⟨rfl,hb⟩;have HL1:=hid (HL.out.below hb);have HQ1:=hid (HQ.out.below hb HQ.out.lt);clear hb q0 q1 q2 q3 HL HQ;obtain⟨⟨z0,z1,z2⟩,y0,y1,y2⟩:=HQ1.out.k3;obtain⟨⟨q0,q1,q2,q3⟩,-⟩:=HL1.out.box.k4;by_cases hpe:pe=0
 case neg =>
  have HE:Hid (FE=pe):=hid (by rw[<-HFE.out,if_pos hpe]);obtain rfl:=HE.out;have HE2:Hid (FP=0):=hid (by rw[<-HFP.out,if_neg hpe]);obtain rfl:=HE2.out;have HE3:Hid (FG=Chk.oq):=hid (by rw[<-HFG.out,if_neg hpe]);obtain rfl:=HE3.out;have t1:((FE:Int) != 0)=true:=by rw[bne_iff_ne];omega
  have t2:¬(FE:Int)=0:=by omega
  go_wp2_with fail;clear z0 z1 z2;obtain⟨⟨e0,e1,e2⟩,-⟩:=Bk.k3 (Sd.E5 HQ1.out (y0:=.string ⟨#[]⟩) (y1:=.string ⟨#[]⟩) (y2:=.slice none 0 0));refine bodyPost_ret (v:=.tuple #[.agg #[.string ⟨#[]⟩,.string ⟨#[]⟩,.slice none 0 0],.int .u64 (0:Nat),.int .i64 (FE:Nat)]) ?_ rfl ⟨_,rfl,Sd.bel3 HL1.out.bel (by omega),Sd.L6 _ _⟩;rw[rG rfl];go_simp;try rfl
 subst hpe;rw[if_neg (by simp)]at HFE;go_wp2_with fail;refine(D7 _ x g (λr hr=>xM (HF.out.sa r hr).2.1 (by decide)) _ (Id.ay.below HL1.out.bel HV.out)).mono ?_;obtain⟨GO,HGd⟩:∃ GO,Hid (Chk.gq x g=GO):=⟨_,hid rfl⟩;rw[HGd.out]at HFE ⊢;rintro e W2⟨u,rfl,hb,hu⟩;have HSG:Hid (Sd.sag x g=GO.getD Chk.oq):=hid (by unfold Sd.sag;rw[HGd.out]);rw[HSG.out]at HFG;obtain⟨G,HG⟩:∃ G,Hid (GO.getD Chk.oq=G):=⟨_,hid rfl⟩;rw[HG.out]at hu HFG;have HS:=hid (Sd.NW (B:=w.heap.size) (by have:=HL1.out.bel.size;omega) hu);obtain⟨u2,rfl,hu2⟩:=hu;obtain⟨A6,n6,c6,rfl⟩:=ah.is hu2;clear hu2;have HL2:=hid (HL1.out.below hb);have HQ2:=hid (HQ1.out.below hb HQ1.out.lt);clear hb q0 q1 q2 q3 z0 z1 z2 y0 y1 y2 HL1 HQ1;obtain⟨⟨z0,z1,z2⟩,y0,y1,y2⟩:=HQ2.out.k3;obtain⟨⟨q0,q1,q2,q3⟩,-⟩:=HL2.out.box.k4;obtain⟨gb,Hgb⟩:∃ gb,Hid (GO.isSome=gb):=⟨_,hid rfl⟩;rw[Hgb.out]at HFE ⊢;cases gb
 ·have HE:Hid (FE=240):=hid (by rw[<-HFE.out];simp)
  obtain rfl:=HE.out;have HE2:Hid (FP=0):=hid (by rw[<-HFP.out];simp);obtain rfl:=HE2.out;have HE3:Hid (FG=Chk.oq):=hid (by rw[<-HFG.out];simp);obtain rfl:=HE3.out;go_wp2_with fail;clear z0 z1 z2;have HQ3:=hid (Sd.E5 HQ2.out (y0:=.string G.name) (y1:=.string G.arg) (y2:=.slice A6 n6 c6));have HB3:=hid (Sd.bel3 HL2.out.bel (b:=w.heap.size+1) (y0:=.string G.name) (y1:=.string G.arg) (y2:=.slice A6 n6 c6) (by omega));obtain⟨⟨e0,e1,e2⟩,-⟩:=Bk.k3 (Sd.E5 HQ3.out (y0:=.string ⟨#[]⟩) (y1:=.string ⟨#[]⟩) (y2:=.slice none 0 0));refine bodyPost_ret (v:=.tuple #[.agg #[.string ⟨#[]⟩,.string ⟨#[]⟩,.slice none 0 0],.int .u64 (0:Nat),.int .i64 (240:Nat)]) ?_ rfl ⟨_,rfl,Sd.bel3 HB3.out (by omega),Sd.L6 _ _⟩;rw[rG rfl];go_simp;try rfl
 ·have HE:Hid (FE=0):=hid (by rw[<-HFE.out];simp)
  obtain rfl:=HE.out;have HE2:Hid (FP=p):=hid (by rw[<-HFP.out];simp);obtain rfl:=HE2.out;have HE3:Hid (FG=G):=hid (by rw[<-HFG.out];simp);obtain rfl:=HE3.out;have HQ3:=hid (Sd.E5 HQ2.out (y0:=.string FG.name) (y1:=.string FG.arg) (y2:=.slice A6 n6 c6));have HB3:=hid (Sd.bel3 HL2.out.bel (b:=w.heap.size+1) (y0:=.string FG.name) (y1:=.string FG.arg) (y2:=.slice A6 n6 c6) (by omega));have HS3:=hid (Sd.CB (y0:=.string FG.name) (y1:=.string FG.arg) (y2:=.slice A6 n6 c6) (by decide) HQ2.out HS.out);obtain⟨⟨e0,e1,e2⟩,f0,f1,f2⟩:=HQ3.out.k3;go_wp2_with fail;clear z0 z1 z2;have HQ4:=hid (Sd.E5 HQ3.out (y0:=.string FG.name) (y1:=.string FG.arg) (y2:=.slice A6 n6 c6));obtain⟨⟨e0,e1,e2⟩,-⟩:=HQ4.out.k3;refine bodyPost_ret (v:=.tuple #[.agg #[.string FG.name,.string FG.arg,.slice A6 n6 c6],.int .u64 (FP:Nat),.int .i64 (0:Nat)]) ?_ rfl ⟨_,rfl,Sd.bel3 HB3.out (by omega),Sd.CB (by decide) HQ3.out HS3.out⟩;rw[rG rfl];go_simp;try rfl
namespace Sd
open Id Chk Ev
theorem Qs(x:Sch)(g:ByteArray):(gOf x g).steps.length=(steps x g).1:=by
 unfold gOf steps;by_cases h:dM x g=0
 ·rw[if_pos h,if_neg (by simp[h])]
 ·rw[if_neg h,if_pos h]
  rfl
theorem Cc(x:Sch)(g:ByteArray):(steps x g).2=dM x g:=by
 unfold steps;by_cases h:dM x g=0
 ·rw[if_neg (by simp[h]),h]
 ·rw[if_pos h]
end Sd
theorem zX(sv:Value)(x:Id.Sch)(hF:Chk.Fine x)(g:ByteArray)(w:World)(hk:Tk.KW w)(hv:Id.ay w none sv x) :
  Calls Tryz.prog 24 #[sv,.string g] w λe w'=>e=.returned (.tuple #[.int .i64 ((Sd.steps x g).1:Nat),.int .i64 ((Sd.steps x g).2:Nat)])/\Below w.heap.size w w':=by
 have hfo:=λW k v=>Ad sv x hF g W k v
 rw[Sd.Cc,<-Sd.Qs];obtain⟨G,HG⟩:∃ G,Hid (Sd.gOf x g=G):=⟨_,hid rfl⟩;obtain⟨FE,HFE⟩:∃ F,Hid (Sd.dM x g=F):=⟨_,hid rfl⟩;obtain⟨FP,HFP⟩:∃ F,Hid (Sd.pOf x g=F):=⟨_,hid rfl⟩;rw[HG.out,HFE.out];simp only[HG.out,HFE.out,HFP.out]at hfo;have HFO:=hid hfo;clear hfo;have HKW:=hid hk;have HV:=hid hv;obtain⟨A1,n1,c1,A2,n2,c2,A3,n3,c3,rfl,-,-,-⟩:=hv;clear hk;go_enter Tryz.func24,Tryz.ntmps24;go_upto_region 1 with(fail)
 refine aj (λV hV=>?_);have HL:Hid (Chk.Lx w V #[.string x.name,.slice A1 n1 c1,.slice A2 n2 c2,.slice A3 n3 c3]):=hid (by subst hV;exact⟨(Below.refl _ _).alloc (xB _) _,Bk.new w _ _⟩);clear hV;obtain⟨⟨q0,q1,q2,q3⟩,-⟩:=HL.out.box.k4;go_wp2_with fail;refine(HFO.out _ (HKW.out.below HL.out.bel) (Id.ay.below HL.out.bel HV.out)).mono ?_;rintro e W1⟨v,rfl,hb,u,rfl,hu⟩;obtain⟨A6,n6,c6,rfl⟩:=ah.is hu;have HN:Hid (n6=G.steps.length):=hid (by obtain⟨_,_,e,_⟩:=ah.slice hu;injection e);have HB:=hid (HL.out.below hb).bel;clear hb hu q0 q1 q2 q3;go_upto_region 2 with(fail)
 refine aj (λV2 hV=>?_);obtain⟨hbV,hqV,-⟩:=au hV;obtain⟨⟨b0,b1,b2⟩,-⟩:=hqV.k3;have HB2:=hid (HB.out.trans (hbV.mono HB.out.size));clear hV hbV hqV;go_wp2_with fail;refine bodyPost_ret (results_tmp2 rfl _ _ _) rfl ⟨by rw[HN.out];rfl,HB2.out⟩
end
section
open Go.RowKit
theorem eF{P:Program}{fn:Func}{R:Ending->World->Prop}{a:Act}{w:World}{p u:Tmp}{ty:TypeId}(h:fn.results=#[.cell p ty,.tmp u])(g:Nat)(hp:a.tmps.getD p undef=.pointer (some ⟨g,0,none⟩))
  (t:TypeId) (cs:Array Value) (d:TypeDesc) (hg:Bk w g t cs) (hu:P.underlying ty=some d) (hd:(match d with| .struct _| .array _ _=>true|_=>false)=true) (hi:(P.info? ty).map (·.size)=some cs.size)
  (hdf:a.defers=[]) (hR:R (.returned (.tuple #[.agg cs,a.tmps.getD u undef])) w):bodyPost P fn R .ret a w:=by
 refine bodyPost_ret (v:=.tuple #[.agg cs,a.tmps.getD u undef]) ?_ hdf hR;rw[results_cell_tmp h,hp];have hl:=run_loadVar_row (P:=P) w g t ty cs (0,0) d hg hu hd hi;simp only[asAddr,Sem.run_pure,Result.andThen_ok,hl]
end
section
open Go.BigFrame Go.RowKit
namespace Lst
section
variable {P : Program} {ops : Array Oper} {Q : Exit -> Act -> World -> Prop} {md : Region.Mode} {S : World -> Prop} {z : Nat}
def Az(md:Region.Mode)(ops:Array Oper)(z:Nat):Bool :=
 (List.range z).all λi=>(List.range (z+1)).any λj=>decide (i<j)&&match ops[j]? with
  |none=>false
  |some o=>o.after.any λe=>Region.binds md e&&e.on==i
theorem Shut.allM{listed:Array Bool}(h:Shut md ops listed)(hL:Az md ops z=true)(hz:z∈Region.ready md ops listed):∀ i,i<z->listed.getD i false=true:=by
 unfold Az at hL;have key:∀ n i,z - i=n->i<z->listed.getD i false=true:=by
  intro n;induction n using Nat.strongRecOn with
  |_ n ih =>
   intro i hn hi;obtain⟨j,hj,hjj⟩:=List.any_eq_true.1 (List.all_eq_true.1 hL i (List.mem_range.2 hi));simp only[xX,decide_eq_true_eq]at hjj;obtain⟨hij,hjj⟩:=hjj;have U1:j<z+1:=List.mem_range.1 hj;have hjs:j<ops.size:=by
    obtain⟨_,o',ho',_⟩:=mem_ready.1 hz;have:=(Array.getElem?_eq_some_iff.1 ho').1;omega
   rw[yD hjs]at hjj;simp only at hjj;obtain⟨m,hm,hmm⟩:=Array.any_eq_true.1 hjj;simp only[xX,beq_iff_eq]at hmm;have hjo:ops[j]?=some ops[j]:=yD hjs;rw[<-hmm.2];by_cases hjz:j=z
   ·subst hjz
    obtain⟨_,o',ho',hall⟩:=mem_ready.1 hz;rw[hjo]at ho';injection ho' with ho'
    subst ho';exact hall _ (Array.getElem_mem hm) hmm.1
   ·exact h.2 j _ hjo (ih (z - j) (by omega) j rfl (by omega)) _ (Array.getElem_mem hm) hmm.1
 exact λi hi=>key _ i rfl hi
theorem firstM{i:Nat}{oi:Oper}{v:Value}(hi:ops[i]?=some oi)(hsel:∀(j:Nat)(o:Oper) cs b,ops[j]?=some o->o.op≠.select cs b)
  (hQ:∀ c a w,Q (.panic c) (a.put oi.dst v) w->Q (.panic c) a w) (hL:Az md ops z=true) (hiz:i<z) :
  ∀(fuel:Nat)(listed:Array Bool)(a:Act)(w:World),
   Shut md ops listed->noneOf [z] listed=true ->
   (∀ j oj,ops[j]?=some oj->j≠i->listed.getD j true=false->(∀ e∈oj.after,Region.binds md e=true->e.on≠i)->oi.apart ops oj=true) ->
   i∈Region.ready md ops listed->YieldsIf P ops S oi v a->S w ->
   wpAnyL P md ops Q S [z] fuel (listed.setIfInBounds i true) (a.put oi.dst v) w->wpAnyL P md ops Q S [z] (fuel+1) listed a w:=by
 intro fuel;induction fuel with
 |zero =>
  intro listed a w hs hD _ hr hy hS H;refine⟨λh=>(by rw[h]at hr;cases hr),λj hj=>?_⟩;by_cases hji:j=i
  ·subst hji;exact hy.wpOp hi hS ⟨λ_=>hS,H⟩
  ·have:=ready_mono hj hji
   rw[H.1]at this;cases this
 |succ fuel ih =>
  intro listed a w hs hD hfree hr hy hS H;refine⟨λh=>(by rw[h]at hr;cases hr),λj hj=>?_⟩;by_cases hji:j=i
  ·subst hji;exact hy.wpOp hi hS ⟨λ_=>hS,H⟩
  ·have h1:=H.2 j (ready_mono hj hji)
   obtain⟨hjun,oj,hoj,hall⟩:=mem_ready.1 hj;have hnot:∀ e∈oj.after,Region.binds md e=true->e.on≠i:=λe he hb heq=>by
    have h1:=hall e he hb;have h0:=(mem_ready.1 hr).1;rw[heq]at h1;rcases Nat.lt_or_ge i listed.size with h'|h'
    ·simp[h']at h0 h1;rw[h0]at h1;cases h1
    ·simp[Array.getElem?_eq_none h']at h1
   have h2:=wpOp_putIf hoj (hfree j oj hoj hji hjun hnot) (λcs b=>hsel i oi cs b hi) (λcs b=>hsel j oj cs b hoj) hQ hy h1;have hfree':∀ k ok,ops[k]?=some ok->k≠i->(listed.setIfInBounds j true).getD k true=false ->
     (∀ e∈ok.after,Region.binds md e=true->e.on≠i)->oi.apart ops ok=true:=λk ok hk hki hun hno=>by
    refine hfree k ok hk hki ?_ hno;by_cases hjk:j=k
    ·subst hjk;exact hjun
    ·rw[getD_set_ne true hjk]at hun;exact hun
   have hiD:i ∉ [z]:=by simp;omega
   have hjD:j ∉ [z]:=by
    intro hjz;simp at hjz;subst hjz;have h1:=Shut.allM hs hL hj i hiz;have h0:=(mem_ready.1 hr).1;have hls:i<listed.size:=by rw[hs.1];exact(Array.getElem?_eq_some_iff.1 hi).1
    simp[hls]at h0 h1;rw[h0]at h1;cases h1
   have hD':=fD hD hjD;refine wpOp_mono (λa' w' h3=>⟨λ_=>h3.2.1 (fD (fD hD hiD) hjD),ih (listed.setIfInBounds j true) a' w' (hs.next hj) hD' hfree' (ready_mono hr (Ne.symm hji)) h3.1 (h3.2.1 (fD (fD hD hiD) hjD)) ?_⟩) h2;rw[Array.setIfInBounds_comm _ _ hji];exact h3.2.2
theorem IB(z i:Nat){oi:Oper}{v:Value}{fuel:Nat}{listed:Array Bool}{a:Act}{w:World}(hi:ops[i]?=some oi)
  (hs:Region.noSelect ops=true) (hf:Region.free md ops listed i=true) (hr:(Region.ready md ops listed).contains i=true) (hL:Az md ops z=true) (hz:(decide (i<z)&&noneOf [z] listed)=true) (hsh:zY md ops listed=true)
  (hQ:∀ c a w,Q (.panic c) (a.put oi.dst v) w->Q (.panic c) a w) (hS:S w) (hw:Region.wanted oi (yielded ops a.tmps)=true) (hy:∀ w,S w->(execOp a.eval oi).run P w=.ok (.value v) w)
  (h:wpAnyL P md ops Q S [z] fuel (listed.setIfInBounds i true) (a.put oi.dst v) w):wpAnyL P md ops Q S [z] (fuel+1) listed a w:=by
 simp only[xX,decide_eq_true_eq]at hz;exact firstM hi (Region.noSelect_spec hs) hQ hL hz.1 fuel listed a w (H9 hsh) hz.2 (Region.free_spec hi hf) (by simpa using hr) (.inl ⟨hw,hy⟩) hS h
theorem takeN(z i:Nat){oi:Oper}{v:Value}{fuel:Nat}{listed:Array Bool}{a:Act}{w:World}(hi:ops[i]?=some oi)
  (hk:(Region.noSelect ops&&Region.free md ops listed i&&(Region.ready md ops listed).contains i&&Az md ops z&&(decide (i<z)&&noneOf [z] listed)&&zY md ops listed)=true)
  (hQ:∀ c a w,Q (.panic c) (a.put oi.dst v) w->Q (.panic c) a w) (hS:S w) (hw:Region.wanted oi (yielded ops a.tmps)=true) (hy:∀ w,S w->(execOp a.eval oi).run P w=.ok (.value v) w)
  (h:wpAnyL P md ops Q S [z] fuel (listed.setIfInBounds i true) (a.put oi.dst v) w):wpAnyL P md ops Q S [z] (fuel+1) listed a w:=by
 have hz:(decide (i<z)&&noneOf [z] listed)=true:=(by simp only[xX]at hk ⊢;exact hk.1.2);simp only[xX]at hk;exact IB z i hi hk.1.1.1.1.1 hk.1.1.1.1.2 hk.1.1.1.2 hk.1.1.2 hz hk.2 hQ hS hw hy h
end
end Lst
end
