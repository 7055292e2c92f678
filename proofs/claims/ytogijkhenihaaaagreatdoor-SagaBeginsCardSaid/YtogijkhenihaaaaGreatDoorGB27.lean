import Derived.Test.YtogijkhenihaaaaGreatDoorGB26
set_option linter.all false
set_option maxRecDepth 100000
set_option maxHeartbeats 0
namespace Go.Proofs.YtogijkhenihaaaaGreatDoor
open Lib (hid)
open Go.BigFrame Go.RowKit
theorem lW{α:Type}{l m:List α}{k:Nat}{a:α}(h:l.drop k=a::m):l.take (k+1)=l.take k++[a]:=by
 rw[List.take_add,h];rfl
theorem aP{α:Type}{l m:List α}{k:Nat}{a:α}(hk:k<l.length)(h:l.drop k=a::m):l[k]=a:=by
 rw[xQ hk]at h;injection h
theorem jQ:28≠9:=by decide
namespace Chk
open Id
def decls(x:Sch):List ByteArray:=(iH x).map (·.1)
theorem Pg(x:Sch):decls x=x.records.map (·.name)++(x.services.map (·.name)++x.sagas.map (·.name)):=by
 unfold decls iH;simp[List.map_append,List.map_map,Function.comp_def]
def jL(x:Sch)(i:Nat):List ByteArray:=if h:i<x.records.length then x.records[i].fields.map (·.name)else if h:i - x.records.length<x.services.length then x.services[i - x.records.length].methods.map (·.name)else[]
theorem parts_eq{x:Sch}{i:Nat}(h:i<(iH x).length):(iH x)[i].2=jL x i:=by
 unfold iH at h ⊢;unfold jL;split
 next h1=>rw[List.getElem_append_left (by simpa using h1)];simp
 next h1 =>
  rw[List.getElem_append_right (by simpa using h1)];split
  next h2=>rw[List.getElem_append_left (by simpa using h2)];simp
  next h2=>rw[List.getElem_append_right (by simpa using h2)];simp
theorem Nk{x:Sch}(h:Fine x):∀ p∈iH x,p.1.size<=1000/\p.2.length<=99/\∀ q∈p.2,q.size<=1000:=by
 intro p hp;unfold iH at hp;simp only[List.mem_append,List.mem_map]at hp;rcases hp with⟨r,hr,rfl⟩|⟨r,hr,rfl⟩|⟨r,hr,rfl⟩
 ·obtain⟨a,b,c⟩:=h.re r hr
  refine⟨a,by simpa using b,λq hq=>?_⟩;obtain⟨f,hf,rfl⟩:=List.mem_map.1 hq;exact(c f hf).1
 ·obtain⟨a,b,c⟩:=h.sv r hr
  refine⟨a,by simpa using b,λq hq=>?_⟩;obtain⟨f,hf,rfl⟩:=List.mem_map.1 hq;exact(c f hf).1
 ·exact⟨(h.sa r hr).1,by simp,λq hq=>by cases hq⟩
theorem JH{x:Sch}(h:Fine x):(iH x).length<=3000:=by
 have:=h.recs;have:=h.kU;have:=h.kV;unfold iH;simp;omega
end Chk
theorem Jm(v:Value)(x:Id.Sch)(hF:Chk.Fine x)(w:World)(hv:Id.ay w none v x) :
  Calls Tryz.prog 266 #[v] w λe w'=>∃ u,e=.returned u/\fH w' (some w.heap.size) u (Chk.decls x)/\Below w.heap.size w w':=by
 have HV:=hid hv;obtain⟨A1,n1,c1,A2,n2,c2,A3,n3,c3,rfl,r1,r2,r3⟩:=hv;have HN1:Hid (n1=x.records.length):=hid (by obtain⟨_,_,e,_⟩:=ah.slice r1;injection e);have hm1:n1<=9223372036854775807:=by obtain⟨_,_,e,_,_⟩:=ah.slice r1;injection e;omega
 have H1:=hid r1;have HN2:Hid (n2=x.services.length):=hid (by obtain⟨_,_,e,_⟩:=ah.slice r2;injection e);have hm2:n2<=9223372036854775807:=by obtain⟨_,_,e,_,_⟩:=ah.slice r2;injection e;omega
 have H2:=hid r2;have HN3:Hid (n3=x.sagas.length):=hid (by obtain⟨_,_,e,_⟩:=ah.slice r3;injection e);have hm3:n3<=9223372036854775807:=by obtain⟨_,_,e,_,_⟩:=ah.slice r3;injection e;omega
 have H3:=hid r3;clear r1 r2 r3;rw[Chk.Pg];go_enter Tryz.func266,Tryz.ntmps266;have hl1:n1<=1000:=by rw[HN1.out];exact hF.recs
 have hl2:n2<=1000:=by rw[HN2.out];exact hF.kU
 have hl3:n3<=1000:=by rw[HN3.out];exact hF.kV
 go_upto_region 1 with(fail)
 refine aj (λV hV=>?_);have HL:=hid (Chk.Lx.start hV);clear hV;obtain⟨⟨q0,q1,q2,q3⟩,-⟩:=HL.out.box.k4;go_wp2_with fail;go_loopw [4,3] (λi sl wr=>∃(k:Nat)(lv:Value),k<=n1/\i=.int .i64 k/\lv=sl/\Hid (fH wr (some w.heap.size) lv ((x.records.take k).map (·.name)))/\Hid (Chk.Lx w wr #[.string x.name,.slice A1 n1 c1,.slice A2 n2 c2,.slice A3 n3 c3])) (λi _ _=>n1 - (intOf i).toNat)
 case atStart=>exact⟨0,_,by omega,rfl,rfl,hid (ah.nil _ _ _ _ _),HL⟩
 case round =>
  clear HL q0 q1 q2 q3;obtain⟨k,lv,hk,rfl,rfl,HR,HL⟩:=hrel;obtain⟨V1,rfl⟩:∃ w',w'=wr:=⟨_,rfl⟩;have ik0:(0:Int)<=(k:Int):=by omega
  obtain⟨⟨q0,q1,q2,q3⟩,-⟩:=HL.out.box.k4;by_cases hlt:k<n1
  case neg =>
   have HRx:Hid (fH V1 (some w.heap.size) lv (x.records.map (·.name))):=hid (by have h:=HR.out;rw[yE (by have:=HN1.out;omega)]at h;exact h);clear HR;go_wp2_with fail;go_loopw [5,3] (λi sl wr=>∃(k:Nat)(lv:Value),k<=n2/\i=.int .i64 k/\lv=sl/\Hid (fH wr (some w.heap.size) lv (x.records.map (·.name)++(x.services.take k).map (·.name)))/\Hid (Chk.Lx w wr #[.string x.name,.slice A1 n1 c1,.slice A2 n2 c2,.slice A3 n3 c3])) (λi _ _=>n2 - (intOf i).toNat)
   case atStart=>exact⟨0,_,by omega,rfl,rfl,hid (by have h:=HRx.out;simpa using h),HL⟩
   case round =>
    clear HL q0 q1 q2 q3;obtain⟨k,lv,hk,rfl,rfl,HR,HL⟩:=hrel;obtain⟨V1,rfl⟩:∃ w',w'=wr:=⟨_,rfl⟩;have ik0:(0:Int)<=(k:Int):=by omega
    obtain⟨⟨q0,q1,q2,q3⟩,-⟩:=HL.out.box.k4;by_cases hlt:k<n2
    case neg =>
     have HRx:Hid (fH V1 (some w.heap.size) lv (x.records.map (·.name)++x.services.map (·.name))):=hid (by have h:=HR.out;rw[yE (by have:=HN2.out;omega)]at h;exact h);clear HR;go_wp2_with fail;go_loopw [6,3] (λi sl wr=>∃(k:Nat)(lv:Value),k<=n3/\i=.int .i64 k/\lv=sl/\Hid (fH wr (some w.heap.size) lv (x.records.map (·.name)++(x.services.map (·.name)++(x.sagas.take k).map (·.name))))/\Hid (Chk.Lx w wr #[.string x.name,.slice A1 n1 c1,.slice A2 n2 c2,.slice A3 n3 c3])) (λi _ _=>n3 - (intOf i).toNat)
     case atStart=>exact⟨0,_,by omega,rfl,rfl,hid (by have h:=HRx.out;simpa using h),HL⟩
     case round =>
      clear HL q0 q1 q2 q3;obtain⟨k,lv,hk,rfl,rfl,HR,HL⟩:=hrel;obtain⟨V1,rfl⟩:∃ w',w'=wr:=⟨_,rfl⟩;have ik0:(0:Int)<=(k:Int):=by omega
      obtain⟨⟨q0,q1,q2,q3⟩,-⟩:=HL.out.box.k4;by_cases hlt:k<n3
      case neg =>
       have HRx:Hid (fH V1 (some w.heap.size) lv (x.records.map (·.name)++(x.services.map (·.name)++x.sagas.map (·.name)))):=hid (by have h:=HR.out;rw[yE (by have:=HN3.out;omega)]at h;exact h);clear HR;go_wp2_with fail;go_ret;exact⟨lv,rfl,HRx.out,HL.out.bel⟩
      have aX:k<x.sagas.length:=by rw[<-HN3.out];exact hlt
      obtain⟨g1,off1,cs,rfl,-,⟨u,he,HU⟩,hc⟩:=ah.get H3.out aX (by omega);obtain⟨r,Hr⟩:∃ r,Hid (x.sagas[k]=r):=⟨_,hid rfl⟩;rw[Hr.out]at he HU;obtain⟨rn,ra,rf⟩:=r;subst he;simp only at HU hc;obtain⟨A5,n5,c5,rfl⟩:=ah.is HU;have HN5:Hid (n5=rf.length):=hid (by obtain⟨_,_,e,_⟩:=ah.slice HU;injection e);have hm5:n5<=9223372036854775807:=by obtain⟨_,_,e,_,_⟩:=ah.slice HU;injection e;omega
      have H5:=hid HU;have HDk:Hid (x.sagas.drop k=⟨rn,ra,rf⟩::x.sagas.drop (k+1)):=hid (by rw[xQ aX,Hr.out]);have b0:=hc 0 _ rfl;have b1:=hc 1 _ rfl;have b2:=hc 2 _ rfl;simp only[xK]at b0;have aC:g1<w.heap.size:=xH w _ b0;have b0:=(HL.out.bel.cell aC).trans b0;have b1:=(HL.out.bel.cell aC).trans b1;have b2:=(HL.out.bel.cell aC).trans b2;have i11:(k:Int)<(n3:Int):=by omega
      clear hc HU Hr;have hle:(x.records.map (·.name)++(x.services.map (·.name)++(x.sagas.take k).map (·.name))).length<=3000:=by have:=HN1.out;have:=HN2.out;have:=HN3.out;simp only[xI,List.length_map,List.length_take];omega
      have hbw:=HL.out.bel.size;go_wp2_with(at_builtin;go_must(refine aI rfl _ _ _ rfl w.heap.size 9 _ 1 16 Tryz.underlying94 oI rfl (by decide) o8 lv _ rfl HR.out [.string rn] rfl _ rfl (by simp) (by simp[Value.oneCell']) (by simp only[maxLen];omega) (by omega) (by omega) ?_);intro v2 w2 hrow2 hb2 ho2;have HR2:=hid (hrow2 rn (λ_ _ h=>h) rfl);have HL2:=hid (HL.out.only hb2 ho2 jQ);clear hrow2 hb2 ho2);go_roundw
      case rel=>exact⟨k+1,_,by omega,by go_num,rfl,hid (by have h:=HR2.out;rw[lW HDk.out,List.map_append];unfold fH;simpa using h),HL2⟩
      case measure=>simp[intOf];omega
    have aX:k<x.services.length:=by rw[<-HN2.out];exact hlt
    obtain⟨g1,off1,cs,rfl,-,⟨u,he,HU⟩,hc⟩:=ah.get H2.out aX (by omega);obtain⟨r,Hr⟩:∃ r,Hid (x.services[k]=r):=⟨_,hid rfl⟩;rw[Hr.out]at he HU;obtain⟨rn,rf⟩:=r;subst he;simp only at HU hc;obtain⟨A5,n5,c5,rfl⟩:=ah.is HU;have HN5:Hid (n5=rf.length):=hid (by obtain⟨_,_,e,_⟩:=ah.slice HU;injection e);have hm5:n5<=9223372036854775807:=by obtain⟨_,_,e,_,_⟩:=ah.slice HU;injection e;omega
    have H5:=hid HU;have HDk:Hid (x.services.drop k=⟨rn,rf⟩::x.services.drop (k+1)):=hid (by rw[xQ aX,Hr.out]);have b0:=hc 0 _ rfl;have b1:=hc 1 _ rfl;simp only[xK]at b0;have aC:g1<w.heap.size:=xH w _ b0;have b0:=(HL.out.bel.cell aC).trans b0;have b1:=(HL.out.bel.cell aC).trans b1;have i11:(k:Int)<(n2:Int):=by omega
    clear hc HU Hr;have hle:(x.records.map (·.name)++(x.services.take k).map (·.name)).length<=3000:=by have:=HN1.out;have:=HN2.out;have:=HN3.out;simp only[xI,List.length_map,List.length_take];omega
    have hbw:=HL.out.bel.size;go_wp2_with(at_builtin;go_must(refine aI rfl _ _ _ rfl w.heap.size 9 _ 1 16 Tryz.underlying94 oI rfl (by decide) o8 lv _ rfl HR.out [.string rn] rfl _ rfl (by simp) (by simp[Value.oneCell']) (by simp only[maxLen];omega) (by omega) (by omega) ?_);intro v2 w2 hrow2 hb2 ho2;have HR2:=hid (hrow2 rn (λ_ _ h=>h) rfl);have HL2:=hid (HL.out.only hb2 ho2 jQ);clear hrow2 hb2 ho2);go_roundw
    case rel=>exact⟨k+1,_,by omega,by go_num,rfl,hid (by have h:=HR2.out;rw[lW HDk.out,List.map_append];unfold fH;simpa using h),HL2⟩
    case measure=>simp[intOf];omega
  have aX:k<x.records.length:=by rw[<-HN1.out];exact hlt
  obtain⟨g1,off1,cs,rfl,-,⟨u,he,HU⟩,hc⟩:=ah.get H1.out aX (by omega);obtain⟨r,Hr⟩:∃ r,Hid (x.records[k]=r):=⟨_,hid rfl⟩;rw[Hr.out]at he HU;obtain⟨rn,rc,rf⟩:=r;subst he;simp only at HU hc;obtain⟨A5,n5,c5,rfl⟩:=ah.is HU;have HN5:Hid (n5=rf.length):=hid (by obtain⟨_,_,e,_⟩:=ah.slice HU;injection e);have hm5:n5<=9223372036854775807:=by obtain⟨_,_,e,_,_⟩:=ah.slice HU;injection e;omega
  have H5:=hid HU;have HDk:Hid (x.records.drop k=⟨rn,rc,rf⟩::x.records.drop (k+1)):=hid (by rw[xQ aX,Hr.out]);have b0:=hc 0 _ rfl;have b1:=hc 1 _ rfl;have b2:=hc 2 _ rfl;simp only[xK]at b0;have aC:g1<w.heap.size:=xH w _ b0;have b0:=(HL.out.bel.cell aC).trans b0;have b1:=(HL.out.bel.cell aC).trans b1;have b2:=(HL.out.bel.cell aC).trans b2;have i11:(k:Int)<(n1:Int):=by omega
  clear hc HU Hr;have hle:((x.records.take k).map (·.name)).length<=3000:=by have:=HN1.out;have:=HN2.out;have:=HN3.out;simp only[xI,List.length_map,List.length_take];omega
  have hbw:=HL.out.bel.size;go_wp2_with(at_builtin;go_must(refine aI rfl _ _ _ rfl w.heap.size 9 _ 1 16 Tryz.underlying94 oI rfl (by decide) o8 lv _ rfl HR.out [.string rn] rfl _ rfl (by simp) (by simp[Value.oneCell']) (by simp only[maxLen];omega) (by omega) (by omega) ?_);intro v2 w2 hrow2 hb2 ho2;have HR2:=hid (hrow2 rn (λ_ _ h=>h) rfl);have HL2:=hid (HL.out.only hb2 ho2 jQ);clear hrow2 hb2 ho2);go_roundw
  case rel=>exact⟨k+1,_,by omega,by go_num,rfl,hid (by have h:=HR2.out;rw[lW HDk.out,List.map_append];unfold fH;simpa using h),HL2⟩
  case measure=>simp[intOf];omega
theorem Jd(v:Value)(x:Id.Sch)(i:Nat)(hF:Chk.Fine x)(hi:i<=3000)(w:World)(hv:Id.ay w none v x) :
  Calls Tryz.prog 268 #[v,.int .i64 i] w λe w'=>∃ u,e=.returned u/\fH w' (some w.heap.size) u (Chk.jL x i)/\Below w.heap.size w w':=by
 have HV:=hid hv;obtain⟨A1,n1,c1,A2,n2,c2,A3,n3,c3,rfl,r1,r2,r3⟩:=hv;have HN1:Hid (n1=x.records.length):=hid (by obtain⟨_,_,e,_⟩:=ah.slice r1;injection e);have hm1:n1<=9223372036854775807:=by obtain⟨_,_,e,_,_⟩:=ah.slice r1;injection e;omega
 have H1:=hid r1;have HN2:Hid (n2=x.services.length):=hid (by obtain⟨_,_,e,_⟩:=ah.slice r2;injection e);have hm2:n2<=9223372036854775807:=by obtain⟨_,_,e,_,_⟩:=ah.slice r2;injection e;omega
 have H2:=hid r2;have HN3:Hid (n3=x.sagas.length):=hid (by obtain⟨_,_,e,_⟩:=ah.slice r3;injection e);have hm3:n3<=9223372036854775807:=by obtain⟨_,_,e,_,_⟩:=ah.slice r3;injection e;omega
 have H3:=hid r3;clear r1 r2 r3;have HF:=hid hF;have ii0:(0:Int)<=(i:Int):=by omega
 go_enter Tryz.func268,Tryz.ntmps268;have hl1:n1<=1000:=by rw[HN1.out];exact hF.recs
 have hl2:n2<=1000:=by rw[HN2.out];exact hF.kU
 have hl3:n3<=1000:=by rw[HN3.out];exact hF.kV
 clear hF;go_upto_region 1 with(fail)
 refine aj (λV hV=>?_);have HL:=hid (Chk.Lx.start hV);clear hV;obtain⟨⟨q0,q1,q2,q3⟩,-⟩:=HL.out.box.k4;by_cases hlt:i<n1
 case pos =>
  have hmem:(x.records[i]'(by rw[<-HN1.out];exact hlt))∈x.records:=xR _;have h99:=(HF.out.re _ hmem).2.1;obtain⟨P,HP⟩:∃ P,Hid (Chk.jL x i=P):=⟨_,hid rfl⟩;have HP9:Hid (x.records[i]'(by rw[<-HN1.out];exact hlt)=x.records[i]'(by rw[<-HN1.out];exact hlt)):=hid rfl;have HP0:Hid (P=(x.records[i]'(by rw[<-HN1.out];exact hlt)).fields.map (·.name)):=hid (by rw[<-HP.out];unfold Chk.jL;rw[dif_pos (by rw[<-HN1.out];exact hlt)]);clear HP hmem HP9;have H99:=hid h99;clear h99;have FD:i<x.records.length:=by rw[<-HN1.out];exact hlt
  obtain⟨g1,off1,cs,rfl,-,⟨u,he,HU⟩,hc⟩:=ah.get H1.out FD (by omega);obtain⟨r,Hr⟩:∃ r,Hid (x.records[i]=r):=⟨_,hid rfl⟩;rw[Hr.out]at he HU;obtain⟨rn,rc,rf⟩:=r;subst he;simp only at HU hc;obtain⟨A5,n5,c5,rfl⟩:=ah.is HU;have HN5:Hid (n5=rf.length):=hid (by obtain⟨_,_,e,_⟩:=ah.slice HU;injection e);have hm5:n5<=9223372036854775807:=by obtain⟨_,_,e,_,_⟩:=ah.slice HU;injection e;omega
  have H5:=hid HU;have HDi:Hid (x.records.drop i=⟨rn,rc,rf⟩::x.records.drop (i+1)):=hid (by rw[xQ FD,Hr.out]);have b0:=hc 0 _ rfl;have b1:=hc 1 _ rfl;have b2:=hc 2 _ rfl;simp only[xK]at b0;have aC:g1<w.heap.size:=xH w _ b0;have b0:=(HL.out.bel.cell aC).trans b0;have b1:=(HL.out.bel.cell aC).trans b1;have b2:=(HL.out.bel.cell aC).trans b2;have i11:(i:Int)<(n1:Int):=by omega
  clear hc HU Hr;have eG:=aP FD HDi.out;rw[eG]at HP0 H99;have h5:n5<=99:=by rw[HN5.out];exact H99.out
  clear eG H99;have HP:=HP0;clear HP0;have HP1:Hid (Chk.jL x i=rf.map (·.name)):=hid (by unfold Chk.jL;rw[dif_pos FD,aP FD HDi.out]);clear HP;have HP:=HP1;clear HP1;go_wp2_with fail;go_loopw [6,5] (λi sl wr=>∃(k:Nat)(lv:Value),k<=n5/\i=.int .i64 k/\lv=sl/\Hid (fH wr (some w.heap.size) lv ((rf.take k).map (·.name)))/\Hid (Chk.Lx w wr #[.string x.name,.slice (some ⟨g1,off1,none⟩) n1 c1,.slice A2 n2 c2,.slice A3 n3 c3])) (λi _ _=>n5 - (intOf i).toNat)
  case atStart=>exact⟨0,_,by omega,rfl,rfl,hid (ah.nil _ _ _ _ _),HL⟩
  case round =>
   clear q0 q1 q2 q3;have yw:=HL;clear HL;obtain⟨k,lv,hk,rfl,rfl,HR,HL⟩:=hrel;obtain⟨V1,rfl⟩:∃ w',w'=wr:=⟨_,rfl⟩;have ik0:(0:Int)<=(k:Int):=by omega
   obtain⟨⟨q0,q1,q2,q3⟩,-⟩:=HL.out.box.k4;have b0:=(HL.out.bel.cell aC).trans ((yw.out.bel.cell aC).symm.trans b0);have b1:=(HL.out.bel.cell aC).trans ((yw.out.bel.cell aC).symm.trans b1);have b2:=(HL.out.bel.cell aC).trans ((yw.out.bel.cell aC).symm.trans b2);by_cases hlj:k<n5
   case neg =>
    have HRx:Hid (fH V1 (some w.heap.size) lv (rf.map (·.name))):=hid (by have h:=HR.out;rw[yE (by have:=HN5.out;omega)]at h;exact h);clear HR;go_wp2_with fail;go_ret;exact⟨lv,rfl,by rw[HP.out];exact HRx.out,HL.out.bel⟩
   have FC:k<rf.length:=by rw[<-HN5.out];exact hlj
   obtain⟨g2,off2,cs,rfl,-,⟨u,he,HU⟩,hc⟩:=ah.get H5.out FC (by omega);obtain⟨r,Hr⟩:∃ r,Hid (rf[k]=r):=⟨_,hid rfl⟩;rw[Hr.out]at he HU;obtain⟨yn,yt⟩:=r;subst he;simp only at HU hc;obtain⟨A7,n7,c7,rfl⟩:=ah.is HU;have HN7:Hid (n7=yt.length):=hid (by obtain⟨_,_,e,_⟩:=ah.slice HU;injection e);have hm7:n7<=9223372036854775807:=by obtain⟨_,_,e,_,_⟩:=ah.slice HU;injection e;omega
   have H7:=hid HU;clear HU;have HDk:Hid (rf.drop k=⟨yn,yt⟩::rf.drop (k+1)):=hid (by rw[xQ FC,Hr.out]);have a0:=hc 0 _ rfl;have a1:=hc 1 _ rfl;simp only[xK]at a0;have aH:g2<w.heap.size:=xH w _ a0;have a0:=(HL.out.bel.cell aH).trans a0;have a1:=(HL.out.bel.cell aH).trans a1;have i21:(k:Int)<(n5:Int):=by omega
   clear hc Hr;have hle:((rf.take k).map (·.name)).length<=3000:=by have:=HN5.out;simp only[List.length_map,List.length_take];omega
   have hbw:=HL.out.bel.size;go_wp2_with(at_builtin;go_must(refine aI rfl _ _ _ rfl w.heap.size 9 _ 1 16 Tryz.underlying94 oI rfl (by decide) o8 lv _ rfl HR.out [.string yn] rfl _ rfl (by simp) (by simp[Value.oneCell']) (by simp only[maxLen];omega) (by omega) (by omega) ?_);intro v2 w2 hrow2 hb2 ho2;have HR2:=hid (hrow2 yn (λ_ _ h=>h) rfl);have HL2:=hid (HL.out.only hb2 ho2 jQ);clear hrow2 hb2 ho2);go_roundw
   case rel=>exact⟨k+1,_,by omega,by go_num,rfl,hid (by have h:=HR2.out;rw[lW HDk.out,List.map_append];unfold fH;simpa using h),HL2⟩
   case measure=>simp[intOf];omega
 by_cases hlv:i - n1<n2
 case neg =>
  have HP:Hid (Chk.jL x i=[]):=hid (by unfold Chk.jL;rw[dif_neg (by rw[<-HN1.out];exact hlt),dif_neg (by rw[<-HN1.out,<-HN2.out];exact hlv)]);have e1:¬(i:Int) - (n1:Int)<(n2:Int):=by omega
  have e2:¬(i:Int)<(n1:Int):=by omega
  go_wp2_with fail;go_ret;exact⟨_,rfl,by rw[HP.out];exact ah.nil _ _ _ _ _,HL.out.bel⟩
 obtain⟨j,hj⟩:∃ j,i=n1+j:=⟨i - n1,by omega⟩;subst hj;have HP0:Hid (∀ h:j<x.services.length,Chk.jL x (n1+j)=x.services[j].methods.map (·.name)):=hid (λh=>by unfold Chk.jL;rw[dif_neg (by rw[<-HN1.out];exact hlt)];rw[dif_pos (by rw[show n1+j - x.records.length=j from(by rw[<-HN1.out];omega)];exact h)];simp only[show n1+j - x.records.length=j from(by rw[<-HN1.out];omega)]);have TP:j<n2:=by omega
 have e1:((n1+j:Nat):Int) - (n1:Int)=(j:Int):=by omega
 have e2:(n1:Int)+(j:Int) - (n1:Int)=(j:Int):=by omega
 have e3:(j:Int)<(n2:Int):=by omega
 have e4:¬((n1+j:Nat):Int)<(n1:Int):=by omega
 have ij0:(0:Int)<=(j:Int):=by omega
 clear hlv hlt;have h99:=λh:j<x.services.length=>(HF.out.sv _ (xR h)).2.1
 have H99:=hid h99;clear h99;have BK:j<x.services.length:=by rw[<-HN2.out];exact TP
 obtain⟨g1,off1,cs,rfl,-,⟨u,he,HU⟩,hc⟩:=ah.get H2.out BK (by omega);obtain⟨r,Hr⟩:∃ r,Hid (x.services[j]=r):=⟨_,hid rfl⟩;rw[Hr.out]at he HU;obtain⟨rn,rf⟩:=r;subst he;simp only at HU hc;obtain⟨A5,n5,c5,rfl⟩:=ah.is HU;have HN5:Hid (n5=rf.length):=hid (by obtain⟨_,_,e,_⟩:=ah.slice HU;injection e);have hm5:n5<=9223372036854775807:=by obtain⟨_,_,e,_,_⟩:=ah.slice HU;injection e;omega
 have H5:=hid HU;have HDj:Hid (x.services.drop j=⟨rn,rf⟩::x.services.drop (j+1)):=hid (by rw[xQ BK,Hr.out]);have b0:=hc 0 _ rfl;have b1:=hc 1 _ rfl;simp only[xK]at b0;have aC:g1<w.heap.size:=xH w _ b0;have b0:=(HL.out.bel.cell aC).trans b0;have b1:=(HL.out.bel.cell aC).trans b1;have i11:(j:Int)<(n2:Int):=by omega
 clear hc HU Hr;have h5:n5<=99:=by rw[HN5.out];have:=H99.out BK;rw[aP BK HDj.out]at this;exact this
 have HP:Hid (Chk.jL x (n1+j)=rf.map (·.name)):=hid (by rw[HP0.out BK,aP BK HDj.out]);clear HP0 H99;go_wp2_with fail;go_loopw [7,5] (λi sl wr=>∃(k:Nat)(lv:Value),k<=n5/\i=.int .i64 k/\lv=sl/\Hid (fH wr (some w.heap.size) lv ((rf.take k).map (·.name)))/\Hid (Chk.Lx w wr #[.string x.name,.slice A1 n1 c1,.slice (some ⟨g1,off1,none⟩) n2 c2,.slice A3 n3 c3])) (λi _ _=>n5 - (intOf i).toNat)
 case atStart=>exact⟨0,_,by omega,rfl,rfl,hid (ah.nil _ _ _ _ _),HL⟩
 case round =>
  clear q0 q1 q2 q3;have yw:=HL;clear HL;obtain⟨k,lv,hk,rfl,rfl,HR,HL⟩:=hrel;obtain⟨V1,rfl⟩:∃ w',w'=wr:=⟨_,rfl⟩;have ik0:(0:Int)<=(k:Int):=by omega
  obtain⟨⟨q0,q1,q2,q3⟩,-⟩:=HL.out.box.k4;have b0:=(HL.out.bel.cell aC).trans ((yw.out.bel.cell aC).symm.trans b0);have b1:=(HL.out.bel.cell aC).trans ((yw.out.bel.cell aC).symm.trans b1);by_cases hlj:k<n5
  case neg =>
   have HRx:Hid (fH V1 (some w.heap.size) lv (rf.map (·.name))):=hid (by have h:=HR.out;rw[yE (by have:=HN5.out;omega)]at h;exact h);clear HR;go_wp2_with fail;go_ret;exact⟨lv,rfl,by rw[HP.out];exact HRx.out,HL.out.bel⟩
  have FC:k<rf.length:=by rw[<-HN5.out];exact hlj
  obtain⟨g2,off2,cs,rfl,-,he,hc⟩:=ah.get H5.out FC (by omega);obtain⟨r,Hr⟩:∃ r,Hid (rf[k]=r):=⟨_,hid rfl⟩;rw[Hr.out]at he;obtain⟨m0,m1,m2,m3,m4⟩:=r;unfold Id.dV Id.Mth.cells at he;subst he;have HDk:Hid (rf.drop k=⟨m0,m1,m2,m3,m4⟩::rf.drop (k+1)):=hid (by rw[xQ FC,Hr.out]);have a0:=hc 0 _ rfl;have a1:=hc 1 _ rfl;have a2:=hc 2 _ rfl;have a3:=hc 3 _ rfl;have a4:=hc 4 _ rfl;simp only[xK]at a0;have aH:g2<w.heap.size:=xH w _ a0;have a0:=(HL.out.bel.cell aH).trans a0;have a1:=(HL.out.bel.cell aH).trans a1;have a2:=(HL.out.bel.cell aH).trans a2;have a3:=(HL.out.bel.cell aH).trans a3;have a4:=(HL.out.bel.cell aH).trans a4;have i21:(k:Int)<(n5:Int):=by omega
  clear hc Hr;have hle:((rf.take k).map (·.name)).length<=3000:=by have:=HN5.out;simp only[List.length_map,List.length_take];omega
  have hbw:=HL.out.bel.size;go_wp2_with(at_builtin;go_must(refine aI rfl _ _ _ rfl w.heap.size 9 _ 1 16 Tryz.underlying94 oI rfl (by decide) o8 lv _ rfl HR.out [.string m0] rfl _ rfl (by simp) (by simp[Value.oneCell']) (by simp only[maxLen];omega) (by omega) (by omega) ?_);intro v2 w2 hrow2 hb2 ho2;have HR2:=hid (hrow2 m0 (λ_ _ h=>h) rfl);have HL2:=hid (HL.out.only hb2 ho2 jQ);clear hrow2 hb2 ho2);go_roundw
  case rel=>exact⟨k+1,_,by omega,by go_num,rfl,hid (by have h:=HR2.out;rw[lW HDk.out,List.map_append];unfold fH;simpa using h),HL2⟩
  case measure=>simp[intOf];omega
theorem EP(v:Value)(x:Id.Sch)(hF:Chk.Fine x)(w:World)(hv:Id.ay w none v x) :
  Calls Tryz.prog 248 #[v] w λe w'=>e=.returned (Chk.kL (Chk.ak (Chk.eX x)))/\Below w.heap.size w w':=by
 have HV:=hid hv;obtain⟨A1,n1,c1,A2,n2,c2,A3,n3,c3,rfl,r1,r2,r3⟩:=hv;have HN1:Hid (n1=x.records.length):=hid (by obtain⟨_,_,e,_⟩:=ah.slice r1;injection e);have hm1:n1<=9223372036854775807:=by obtain⟨_,_,e,_,_⟩:=ah.slice r1;injection e;omega
 have H1:=hid r1;have HN2:Hid (n2=x.services.length):=hid (by obtain⟨_,_,e,_⟩:=ah.slice r2;injection e);have hm2:n2<=9223372036854775807:=by obtain⟨_,_,e,_,_⟩:=ah.slice r2;injection e;omega
 have H2:=hid r2;have HN3:Hid (n3=x.sagas.length):=hid (by obtain⟨_,_,e,_⟩:=ah.slice r3;injection e);have hm3:n3<=9223372036854775807:=by obtain⟨_,_,e,_,_⟩:=ah.slice r3;injection e;omega
 have H3:=hid r3;clear r1 r2 r3;have HF:=hid hF;obtain⟨R,HR⟩:∃ R,Hid (Chk.ak (Chk.eX x)=R):=⟨_,hid rfl⟩;rw[HR.out];obtain⟨D,HD⟩:∃ D,Hid (Chk.decls x=D):=⟨_,hid rfl⟩;have HR0:Hid (Chk.ak (Chk.nK ((Chk.iH x).drop 0) (D.take 0))=R):=hid (by rw[<-HR.out,<-Chk.Nj];rfl);clear hF HR;go_enter Tryz.func248,Tryz.ntmps248;go_upto_region 1 with(fail)
 refine aj (λV hV=>?_);have HL:=hid (Chk.Lx.start hV);clear hV;obtain⟨⟨q0,q1,q2,q3⟩,-⟩:=HL.out.box.k4;go_wp2_with fail;refine(Jm _ x HF.out _ (Id.ay.below HL.out.bel HV.out)).mono ?_;rintro e W1⟨u,rfl,hu,hb⟩;rw[HD.out]at hu;obtain⟨AD,nD,cD,rfl⟩:=ah.is hu;have HND:Hid (nD=D.length):=hid (by obtain⟨_,_,e,_⟩:=ah.slice hu;injection e);have hDm:nD<=3000:=by have h:=Chk.JH HF.out;rw[HND.out,<-HD.out];unfold Chk.decls;simpa using h
 have HS:Hid (fH W1 none (.slice AD nD cD) D):=hid (ah.mono hu (λ_ _ hr=>hr.weak (λb' e'=>by cases e')) (λ_ _ h=>h));have HL1:=hid (HL.out.below hb);clear hu hb HL q0 q1 q2 q3;go_wp2_with fail;go_loopw [5] (λi wr=>∃(k:Nat),k<=nD/\i=.int .i64 k/\Hid (Chk.ak (Chk.nK ((Chk.iH x).drop k) (D.take k))=R)/\Hid (fH wr none (.slice AD nD cD) D)/\Hid (Chk.Lx w wr #[.string x.name,.slice A1 n1 c1,.slice A2 n2 c2,.slice A3 n3 c3])) (λi _=>nD - (intOf i).toNat)
 case atStart=>exact⟨0,by omega,rfl,HR0,HS,HL1⟩
 case round =>
  clear HS HL1 HR0;obtain⟨k,hk,rfl,HI,HS,HL⟩:=hrel;obtain⟨V1,rfl⟩:∃ w',w'=wr:=⟨_,rfl⟩;have ik0:(0:Int)<=(k:Int):=by omega
  have HLD:Hid ((Chk.iH x).length=nD):=hid (by rw[HND.out,<-HD.out];unfold Chk.decls;simp);by_cases hlt:k<nD
  case neg =>
   have HE:Hid (R=none):=hid (by have h:=HI.out;rw[xP (by have:=HLD.out;omega)]at h;exact h.symm);clear HI;go_wp2_with fail;go_ret2;exact⟨by rw[HE.out];rfl,HL.out.bel⟩
  have hkD:k<D.length:=by rw[<-HND.out];exact hlt
  have hkP:k<(Chk.iH x).length:=by rw[HLD.out];exact hlt
  obtain⟨p,Hp⟩:∃ p,Hid ((Chk.iH x)[k]=p):=⟨_,hid rfl⟩;have hok:=Chk.Nk HF.out _ (xR hkP);rw[Hp.out]at hok;have HPT:Hid (Chk.jL x k=p.2):=hid (by rw[<-Chk.parts_eq hkP,Hp.out]);have HDk:Hid (D[k]=p.1):=hid (by simp only[<-HD.out,Chk.decls,List.getElem_map,Hp.out]);have HI1:Hid (Chk.ak (Chk.nK (p::(Chk.iH x).drop (k+1)) (D.take k))=R):=hid (by rw[<-HI.out,xQ hkP,Hp.out]);have HTK:Hid (D.take (k+1)=D.take k++[p.1]):=hid (by rw[List.take_succ_eq_append_getElem hkD,HDk.out]);obtain⟨rn,P⟩:=p;simp only at hok HPT HDk HTK;obtain⟨hrn,TS,hPs⟩:=hok;have HPs:=hid hPs;clear HI Hp hPs;have i11:(k:Int)<(nD:Int):=by omega
  have HK:=hid hkD;go_wp2_with fail;refine(yU _ D k HK.out _ HS.out).mono ?_;rw[HDk.out];rintro e W2⟨rfl,hb⟩;have HLx:=hid (HL.out.below hb);have HSx:Hid (fH W2 none (.slice AD nD cD) D):=hid (ah.below HS.out hb (λ_ _ h=>h));clear HL HS hb;have HL:=HLx;have HS:=HSx;clear HLx HSx;obtain⟨g,off,cs,rfl,-,e1,hc⟩:=ah.get HS.out HK.out (by omega);unfold o8 at e1;rw[HDk.out]at e1;subst e1;have a0:=hc 0 _ rfl;simp only[xK,Nat.mul_one]at a0;clear hc hkP;cases hs:Chk.bD (D.take k) rn
  case true =>
   have HE:Hid (R=some rn):=hid (by rw[<-HI1.out];exact Chk.fQ (by rw[hs];rfl));go_wp2_with fail;go_ret2;exact⟨by rw[HE.out];rfl,HL.out.bel⟩
  have HI2:Hid (Chk.ak (Chk.jg rn (P.drop 0) (P.take 0)++Chk.nK ((Chk.iH x).drop (k+1)) (D.take (k+1)))=R):=hid (by rw[HTK.out];exact(Chk.gV (by rw[hs];rfl)).symm.trans HI1.out);clear HI1 hs a0;obtain⟨⟨q0,q1,q2,q3⟩,-⟩:=HL.out.box.k4;go_wp2_with fail;refine(Jd _ x k HF.out (by omega) _ (Id.ay.below HL.out.bel HV.out)).mono ?_;rintro e W3⟨u,rfl,hu,hb⟩;rw[HPT.out]at hu;obtain⟨AP,nP,cP,rfl⟩:=ah.is hu;have HNP:Hid (nP=P.length):=hid (by obtain⟨_,_,e,_⟩:=ah.slice hu;injection e);have hPm:nP<=99:=by rw[HNP.out];exact TS
  have HSP:Hid (fH W3 none (.slice AP nP cP) P):=hid (ah.mono hu (λ_ _ hr=>hr.weak (λb' e'=>by cases e')) (λ_ _ h=>h));have HLx:=hid (HL.out.below hb);have HSx:Hid (fH W3 none (.slice (some ⟨g,off,none⟩) nD cD) D):=hid (ah.below HS.out hb (λ_ _ h=>h));clear HL HS hb hu q0 q1 q2 q3 HPT;go_wp2_with fail;go_loopw [7] (λi wr=>∃(j:Nat),j<=nP/\i=.int .i64 j/\Hid (Chk.ak (Chk.jg rn (P.drop j) (P.take j)++Chk.nK ((Chk.iH x).drop (k+1)) (D.take (k+1)))=R)/\Hid (fH wr none (.slice (some ⟨g,off,none⟩) nD cD) D)/\Hid (fH wr none (.slice AP nP cP) P)/\Hid (Chk.Lx w wr #[.string x.name,.slice A1 n1 c1,.slice A2 n2 c2,.slice A3 n3 c3])) (λi _=>nP - (intOf i).toNat)
  case atStart=>exact⟨0,by omega,rfl,HI2,HSx,HSP,HLx⟩
  case round =>
   clear HSx HSP HLx HI2;obtain⟨j,hj,rfl,HI,HS,HSP,HL⟩:=hrel;obtain⟨V2,rfl⟩:∃ w',w'=wr:=⟨_,rfl⟩;have ij0:(0:Int)<=(j:Int):=by omega
   by_cases hlj:j<nP
   case neg =>
    have HI3:Hid (Chk.ak (Chk.nK ((Chk.iH x).drop (k+1)) (D.take (k+1)))=R):=hid (by have h:=HI.out;rw[xP (by have:=HNP.out;omega)]at h;exact h);clear HI;go_wp2_with fail;go_roundw
    case rel=>exact⟨k+1,by omega,by go_num,HI3,HS,HL⟩
    case measure=>simp[intOf];omega
   have hjP:j<P.length:=by rw[<-HNP.out];exact hlj
   obtain⟨y,Hy⟩:∃ y,Hid (P[j]=y):=⟨_,hid rfl⟩;have hys:y.size<=1000:=by rw[<-Hy.out];exact HPs.out _ (xR _)
   have HI1:Hid (Chk.ak (Chk.jg rn (y::P.drop (j+1)) (P.take j)++Chk.nK ((Chk.iH x).drop (k+1)) (D.take (k+1)))=R):=hid (by rw[<-HI.out,xQ hjP,Hy.out]);have HTJ:Hid (P.take (j+1)=P.take j++[y]):=hid (by rw[List.take_succ_eq_append_getElem hjP,Hy.out]);have HJ:=hid hjP;have i21:(j:Int)<(nP:Int):=by omega
   clear HI;go_wp2_with fail;refine(yU _ P j HJ.out _ HSP.out).mono ?_;rw[Hy.out];rintro e W4⟨rfl,hb⟩;have HLx:=hid (HL.out.below hb);have HSx:Hid (fH W4 none (.slice (some ⟨g,off,none⟩) nD cD) D):=hid (ah.below HS.out hb (λ_ _ h=>h));have HSy:Hid (fH W4 none (.slice AP nP cP) P):=hid (ah.below HSP.out hb (λ_ _ h=>h));clear HL HS HSP hb;cases hs:Chk.bD (P.take j) y
   case false =>
    have HI4:Hid (Chk.ak (Chk.jg rn (P.drop (j+1)) (P.take (j+1))++Chk.nK ((Chk.iH x).drop (k+1)) (D.take (k+1)))=R):=hid (by rw[HTJ.out];exact(Chk.gV (by rw[hs];rfl)).symm.trans HI1.out);clear HI1 hs;go_wp2_with fail;go_roundw
    case rel=>exact⟨j+1,by omega,by go_num,HI4,HSx,HSy,HLx⟩
    case measure=>simp[intOf];omega
   have HE:Hid (R=some (Chk.part rn y)):=hid (by rw[<-HI1.out];exact Chk.fQ (by rw[hs];rfl));obtain⟨g9,Rx,cs,e9,-,e1,hc⟩:=ah.get HSx.out HK.out (by omega);injection e9 with e9
   injection e9 with e9 e8
   subst e9 e8;unfold o8 at e1;rw[HDk.out]at e1;subst e1;have a0:=hc 0 _ rfl;simp only[xK,Nat.mul_one]at a0;clear hc;obtain⟨g8,TD,cs,rfl,-,e1,hc⟩:=ah.get HSy.out HJ.out (by omega);unfold o8 at e1;rw[Hy.out]at e1;subst e1;have b0:=hc 0 _ rfl;simp only[xK,Nat.mul_one]at b0;clear hc;have z1:(9223372036854775807<rn.size+1)=False:=by simp;omega
   have z2:(9223372036854775807<rn.size+1+y.size)=False:=by simp;omega
   go_wp2_with fail;go_quiet (fail);go_wp2_with fail;go_ret2;exact⟨by rw[HE.out];rfl,below_drewN HLx.out.bel _⟩
