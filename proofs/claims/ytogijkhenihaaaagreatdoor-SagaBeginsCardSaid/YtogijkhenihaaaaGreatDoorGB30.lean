import Derived.Test.YtogijkhenihaaaaGreatDoorGB27
set_option linter.all false
set_option maxRecDepth 100000
set_option maxHeartbeats 0
namespace Go.Proofs.YtogijkhenihaaaaGreatDoor
open Lib (hid)
open Go.BigFrame Go.RowKit
def lG(l:List Bool):Array Value:=(l.map Value.bool).toArray
theorem zM{l:List Bool}{i:Nat}(h:i<l.length):(lG l)[i]?=some (.bool l[i]):=by
 unfold lG;simp[h]
theorem Pj{l:List Bool}{i:Nat}(b:Bool):(lG l).setIfInBounds i (.bool b)=lG (l.set i b):=by
 unfold lG;simp
theorem J6:(Tryz.prog.info? 4).map (λi=>(i.zero,i.size,i.bytes))=some (some (.bool false),1,1):=by kernel_rfl
theorem Aw(w:World)(n:Nat)(hn:n<=1000):Sem.run Tryz.prog (Instr.makeSlice 322 (.int .i64 n) (.int .i64 n)) w=.ok (.slice (some ⟨w.heap.size,0,none⟩) n n) (w.alloc (.cells (lG (List.replicate n false)) 4)):=by
 obtain⟨i,hi0,hz0,hz1,hz2⟩:=info_parts J6;have h:=run_makeSlice (P:=Tryz.prog) w 322 4 i _ Tryz.underlying322 hi0 hz0 .i64 .i64 n n (by omega) (Int.le_refl _) (by rw[hz1];simp;omega) (by rw[hz2];omega) (by omega);simp only[Int.toNat_natCast]at h;rw[hz1,Nat.mul_one]at h;have e:madeCells (Value.bool false).cells n=lG (List.replicate n false):=by
  apply Array.toList_inj.1;rw[show(Value.bool false).cells=#[.bool false]from rfl,toList_madeCells_one];simp[lG]
 rw[e]at h;exact h
namespace Chk
open Id
def lvM(rs:List Rec)(L:List Bool)(i:Nat):List Bool:=(rs.take i).map (lvR rs L)++List.replicate (rs.length - i) false
theorem O8(rs:List Rec)(L:List Bool):lvM rs L 0=List.replicate rs.length false:=by simp[lvM]
theorem Qk(rs:List Rec)(L:List Bool):lvM rs L rs.length=lvN rs L:=by simp[lvM,lvN]
theorem Qj(rs:List Rec)(L:List Bool){i:Nat}(h:i<=rs.length):(lvM rs L i).length=rs.length:=by simp[lvM];omega
theorem O9{rs:List Rec}{L:List Bool}{i:Nat}(h:i<rs.length):(lvM rs L i).set i (lvR rs L rs[i])=lvM rs L (i+1):=by
 unfold lvM;rw[List.set_append_right _ _ (by simp;omega),List.take_succ_eq_append_getElem h,List.map_append];have e:(List.map (lvR rs L) (List.take i rs)).length=i:=by simp;omega
 rw[e,Nat.sub_self,show rs.length - i=(rs.length - (i+1))+1 by omega,List.replicate_succ,xE,xU];rfl
theorem O5{rs:List Rec}{L:List Bool}{x:Nat}{n:ByteArray}(h:x<rs.length)(h':x<L.length):lvl (rs.drop x) (L.drop x) n=if rs[x].name.toList==n.toList then L[x]else lvl (rs.drop (x+1)) (L.drop (x+1)) n:=by
 rw[xQ h,xQ h'];rfl
theorem O6{rs:List Rec}{L:List Bool}{x:Nat}{n:ByteArray}(h:rs.length<=x):lvl (rs.drop x) (L.drop x) n=false:=by
 rw[xP h];rfl
end Chk
theorem Gp(v:Value)(x:Id.Sch)(d:Nat)(hF:Chk.Fine x)(hd:d<=2000)(w:World)(hv:Id.ay w none v x) :
  Calls Tryz.prog 269 #[v,.int .i64 d] w λe w'=>∃ g,e=.returned (.slice (some ⟨g,0,none⟩) x.records.length x.records.length)/\Bk w' g 4 (lG (Chk.lvI x.records (d+1)))/\Below w.heap.size w w':=by
 have HV:=hid hv;obtain⟨A1,n1,c1,A2,n2,c2,A3,n3,c3,rfl,r1,r2,r3⟩:=hv;have HN1:Hid (n1=x.records.length):=hid (by obtain⟨_,_,e,_⟩:=ah.slice r1;injection e);have hm1:n1<=9223372036854775807:=by obtain⟨_,_,e,_,_⟩:=ah.slice r1;injection e;omega
 have H1:=hid r1;have HN2:Hid (n2=x.services.length):=hid (by obtain⟨_,_,e,_⟩:=ah.slice r2;injection e);have hm2:n2<=9223372036854775807:=by obtain⟨_,_,e,_,_⟩:=ah.slice r2;injection e;omega
 have H2:=hid r2;have HN3:Hid (n3=x.sagas.length):=hid (by obtain⟨_,_,e,_⟩:=ah.slice r3;injection e);have hm3:n3<=9223372036854775807:=by obtain⟨_,_,e,_,_⟩:=ah.slice r3;injection e;omega
 have H3:=hid r3;clear r1 r2 r3;have HF:=hid hF;clear hF;have hd0:(0:Int)<=(d:Int):=by omega
 go_enter Tryz.func269,Tryz.ntmps269;have hl1:n1<=1000:=by rw[HN1.out];exact HF.out.recs
 rw[<-HN1.out];go_upto_region 1 with(fail)
 refine aj (λV hV=>?_);have HL:=hid (Chk.Lx.start hV);clear hV;obtain⟨⟨q0,q1,q2,q3⟩,-⟩:=HL.out.box.k4;have hrun:=Aw V n1 hl1;go_upto_region 2 with(fail)
 refine aj (λW0 hW0=>?_);obtain⟨hb,hq,-⟩:=au hW0;clear hW0 hrun q0 q1 q2 q3;have HL0:=hid (HL.out.below hb);have HG0:Hid (Bk W0 V.heap.size 4 (lG (Chk.lvI x.records 0))):=hid (by have h:=hq;rw[HN1.out]at h;exact h);have hsz:=HL.out.box.lt;clear HL hb hq;go_wp2_with fail;go_loopw [6,5] (λi sl wr=>∃(k g:Nat),k<=d+1/\i=.int .i64 k/\(Value.slice (some ⟨g,0,none⟩) n1 n1)=sl/\w.heap.size<g/\Hid (Bk wr g 4 (lG (Chk.lvI x.records k)))/\Hid (Chk.Lx w wr #[.string x.name,.slice A1 n1 c1,.slice A2 n2 c2,.slice A3 n3 c3])) (λi _ _=>d+1 - (intOf i).toNat)
 case atStart=>exact⟨0,_,by omega,rfl,rfl,hsz,HG0,HL0⟩
 case round =>
  clear HL0 HG0 hsz;obtain⟨k,g,hk,rfl,rfl,hg,HG,HL⟩:=hrel;obtain⟨V1,rfl⟩:∃ w',w'=wr:=⟨_,rfl⟩;have ik0:(0:Int)<=(k:Int):=by omega
  by_cases hlt:k<=d
  case neg =>
   obtain rfl:k=d+1:=by omega
   have ik1:¬((d+1:Nat):Int)<=(d:Int):=by omega
   go_wp2_with fail;go_ret;exact⟨g,rfl,HG.out,HL.out.bel⟩
  have ik1:(k:Int)<=(d:Int):=by omega
  have HLV:Hid (Chk.lvI x.records (k+1)=Chk.lvN x.records (Chk.lvI x.records k)):=hid rfl;have hLl:=Chk.kK x.records k;obtain⟨L,HLd⟩:∃ L,Hid (Chk.lvI x.records k=L):=⟨_,hid rfl⟩;rw[HLd.out]at HLV HG hLl;have HLL:Hid (L.length=n1):=hid (by rw[hLl,HN1.out]);clear hLl HLd;have hrun:=Aw V1 n1 hl1;go_upto_region 6 with(fail)
  refine aj (λW2 hW2=>?_);obtain⟨hb,hq,-⟩:=au hW2;clear hW2 hrun;have HL2:=hid (HL.out.below hb);have HG2:=hid (HG.out.below hb HG.out.lt);have hgm:g<V1.heap.size:=HG.out.lt;have hwm:w.heap.size<V1.heap.size:=HL.out.box.lt;have HM2:Hid (Bk W2 V1.heap.size 4 (lG (Chk.lvM x.records L 0))):=hid (by have h:=hq;rw[HN1.out]at h;rw[Chk.O8];exact h);clear HL HG hb hq;go_wp2_with fail;go_loopw [8] (λi wr=>∃(a:Nat),a<=n1/\i=.int .i64 a/\Hid (Bk wr V1.heap.size 4 (lG (Chk.lvM x.records L a)))/\Hid (Bk wr g 4 (lG L))/\Hid (Chk.Lx w wr #[.string x.name,.slice A1 n1 c1,.slice A2 n2 c2,.slice A3 n3 c3])) (λi _=>n1 - (intOf i).toNat)
  case atStart=>exact⟨0,by omega,rfl,HM2,HG2,HL2⟩
  case round =>
   clear HM2 HG2 HL2;obtain⟨a,ha,rfl,HM,HG,HL⟩:=hrel;obtain⟨V2,rfl⟩:∃ w',w'=wr:=⟨_,rfl⟩;have ia0:(0:Int)<=(a:Int):=by omega
   obtain⟨⟨q0,q1,q2,q3⟩,-⟩:=HL.out.box.k4;by_cases hla:a<n1
   case neg =>
    obtain rfl:a=n1:=by omega
    have HG9:Hid (Bk V2 V1.heap.size 4 (lG (Chk.lvI x.records (k+1)))):=hid (by rw[HLV.out,<-Chk.Qk,<-HN1.out];exact HM.out);go_wp2_with fail;go_roundw
    case rel=>exact⟨k+1,_,by omega,by go_num,rfl,hwm,HG9,HL⟩
    case measure=>simp[intOf]<;>omega
   have BL:a<x.records.length:=by rw[<-HN1.out];exact hla
   obtain⟨g1,off1,cs,rfl,-,⟨u,he,HU⟩,hc⟩:=ah.get H1.out BL (by omega);obtain⟨r,Hr⟩:∃ r,Hid (x.records[a]=r):=⟨_,hid rfl⟩;rw[Hr.out]at he HU;obtain⟨rn,rc,rf⟩:=r;subst he;simp only at HU hc;obtain⟨A5,n5,c5,rfl⟩:=ah.is HU;have HN5:Hid (n5=rf.length):=hid (by obtain⟨_,_,e,_⟩:=ah.slice HU;injection e);have hm5:n5<=9223372036854775807:=by obtain⟨_,_,e,_,_⟩:=ah.slice HU;injection e;omega
   have H5:=hid HU;have HDa:Hid (x.records.drop a=⟨rn,rc,rf⟩::x.records.drop (a+1)):=hid (by rw[xQ BL,Hr.out]);have b0:=hc 0 _ rfl;have b1:=hc 1 _ rfl;have b2:=hc 2 _ rfl;simp only[xK]at b0;have aC:g1<w.heap.size:=xH w _ b0;have b0:=(HL.out.bel.cell aC).trans b0;have b1:=(HL.out.bel.cell aC).trans b1;have b2:=(HL.out.bel.cell aC).trans b2;have i11:(a:Int)<(n1:Int):=by omega
   clear hc HU Hr;have HNX:Hid ((Chk.lvM x.records L a).set a (Chk.lvR x.records L ⟨rn,rc,rf⟩)=Chk.lvM x.records L (a+1)):=hid (by rw[<-Chk.O9 BL,aP BL HDa.out]);have HF5:=HF.out.re _ (xR BL);rw[aP BL HDa.out]at HF5;have h5:n5<=99:=by rw[HN5.out];exact HF5.2.1
   clear HF5;go_upto_region 10 with(fail)
   refine aj (λW3 hW3=>?_);obtain⟨hb,hq,-⟩:=au hW3;clear hW3 q0 q1 q2 q3 b0 b1 b2;have HL3:=hid (HL.out.below hb);have HG3:=hid (HG.out.below hb HG.out.lt);have HM3:=hid (HM.out.below hb HM.out.lt);have HQ3:=hid hq;have hmv:V1.heap.size<V2.heap.size:=HM.out.lt;clear HL HG HM hb hq;obtain⟨S,HS⟩:∃ S,Hid ((false||(rf.drop 0).any λf=>Chk.lvT x.records L f.type)=S):=⟨_,hid rfl⟩;obtain⟨E,HE⟩:∃ E,Hid ((true&&(rf.drop 0).all λf=>Chk.lvT x.records L f.type)=E):=⟨_,hid rfl⟩;have HVR:Hid (Chk.lvR x.records L ⟨rn,rc,rf⟩=((rc&&S)||(!rc&&E))):=hid (by rw[<-HS.out,<-HE.out];rfl);go_wp2_with fail;go_loopw [12,10,11] (λi s10 s11 wr=>∃(j:Nat)(bA bB:Bool),j<=n5/\i=.int .i64 j/\s10=.bool bA/\s11=.bool bB/\Hid ((bA||(rf.drop j).any λf=>Chk.lvT x.records L f.type)=S)/\Hid ((bB&&(rf.drop j).all λf=>Chk.lvT x.records L f.type)=E)/\Hid (Below W3.heap.size W3 wr)) (λi _ _ _=>n5 - (intOf i).toNat)
   case atStart=>exact⟨0,false,true,by omega,rfl,rfl,rfl,HS,HE,hid (Below.refl _ _)⟩
   case round =>
    clear HS HE;obtain⟨j,bA,bB,hj,rfl,rfl,rfl,HS,HE,HB⟩:=hrel;obtain⟨V3,rfl⟩:∃ w',w'=wr:=⟨_,rfl⟩;have ij0:(0:Int)<=(j:Int):=by omega
    have HL:=hid (HL3.out.below HB.out);obtain⟨⟨b0,b1c,b2c⟩,-⟩:=(HQ3.out.below HB.out HQ3.out.lt).k3;by_cases hlj:j<n5
    case neg =>
     have eS:bA=S:=by have h:=HS.out;rw[xP (by have:=HN5.out;omega)]at h;simpa using h
     have eE:bB=E:=by have h:=HE.out;rw[xP (by have:=HN5.out;omega)]at h;simpa using h
     subst eS;subst eE;have HM4:=HM3.out.below HB.out HM3.out.lt;have hma:a<(Chk.lvM x.records L a).length:=by rw[Chk.Qj _ _ (by omega)];omega
     have m0:=HM4.cell a;rw[zM hma]at m0;have mf:=HM4.frozen a;have HM5:=hid HM4;have HG4:=hid (HG3.out.below HB.out HG3.out.lt);have ia1:(a:Int)<(n1:Int):=by omega
     generalize(Chk.lvM x.records L a)[a]'hma=old at m0;clear HM4 hma HS HE;have fin:∀ v:Bool,v=((rc&&bA)||(!rc&&bB))->Hid (Bk (V3.setCell ⟨V1.heap.size,a,none⟩ (.bool v)) V1.heap.size 4 (lG (Chk.lvM x.records L (a+1))))/\Hid (Bk (V3.setCell ⟨V1.heap.size,a,none⟩ (.bool v)) g 4 (lG L))/\Hid (Chk.Lx w (V3.setCell ⟨V1.heap.size,a,none⟩ (.bool v)) #[.string x.name,.slice (some ⟨g1,off1,none⟩) n1 c1,.slice A2 n2 c2,.slice A3 n3 c3]):=λv hv=>⟨hid (by rw[<-HNX.out,HVR.out,<-hv,<-Pj];exact HM5.out.aA a _),hid (HG4.out.far (p:=⟨V1.heap.size,a,none⟩) (by show g≠V1.heap.size;omega) _),hid ⟨HL.out.bel.setCell (p:=⟨V1.heap.size,a,none⟩) (by show w.heap.size<=V1.heap.size;omega) _,HL.out.box.far (p:=⟨V1.heap.size,a,none⟩) (by show w.heap.size≠V1.heap.size;omega) _⟩⟩
     have Ul:=hid fin;clear fin;cases rc<;>cases bA<;>cases bB
     all_goals
      obtain⟨H1x,H2x,H3x⟩:=Ul.out _ rfl;go_wp2_with fail;go_roundw
      case rel=>exact⟨a+1,by omega,by go_num,H1x,H2x,H3x⟩
      case measure=>simp[intOf]<;>omega
    have dL:j<rf.length:=by rw[<-HN5.out];exact hlj
    obtain⟨g2,off2,cs,rfl,-,⟨u,he,HU⟩,hc⟩:=ah.get H5.out dL (by omega);obtain⟨r,Hr⟩:∃ r,Hid (rf[j]=r):=⟨_,hid rfl⟩;rw[Hr.out]at he HU;obtain⟨yn,yt⟩:=r;subst he;simp only at HU hc;obtain⟨A7,n7,c7,rfl⟩:=ah.is HU;have HN7:Hid (n7=yt.length):=hid (by obtain⟨_,_,e,_⟩:=ah.slice HU;injection e);have hm7:n7<=9223372036854775807:=by obtain⟨_,_,e,_,_⟩:=ah.slice HU;injection e;omega
    have H7:=hid HU;clear HU;have HDj:Hid (rf.drop j=⟨yn,yt⟩::rf.drop (j+1)):=hid (by rw[xQ dL,Hr.out]);have a0:=hc 0 _ rfl;have a1:=hc 1 _ rfl;simp only[xK]at a0;have aH:g2<w.heap.size:=xH w _ a0;have a0:=(HL.out.bel.cell aH).trans a0;have a1:=(HL.out.bel.cell aH).trans a1;have i21:(j:Int)<(n5:Int):=by omega
    clear hc Hr;have HS1:Hid ((bA||(Chk.lvT x.records L yt||(rf.drop (j+1)).any λf=>Chk.lvT x.records L f.type))=S):=hid (by have h:=HS.out;rw[HDj.out,List.any_cons]at h;exact h);have HE1:Hid ((bB&&(Chk.lvT x.records L yt&&(rf.drop (j+1)).all λf=>Chk.lvT x.records L f.type))=E):=hid (by have h:=HE.out;rw[HDj.out,List.all_cons]at h;exact h);clear HS HE;obtain⟨T,HT⟩:∃ T,Hid (Chk.lvT x.records L yt=T):=⟨_,hid rfl⟩;rw[HT.out]at HS1 HE1;have HS2:Hid (((bA||T)||(rf.drop (j+1)).any λf=>Chk.lvT x.records L f.type)=S):=hid (by rw[Bool.or_assoc];exact HS1.out);have HE2:Hid (((bB&&T)&&(rf.drop (j+1)).all λf=>Chk.lvT x.records L f.type)=E):=hid (by rw[Bool.and_assoc];exact HE1.out);clear HS1 HE1;cases yt
    case nil =>
     obtain rfl:n7=0:=HN7.out;obtain rfl:T=false:=HT.out.symm;cases bA<;>cases bB
     all_goals
      go_wp2_with fail;go_roundw
      case rel=>exact⟨j+1,_,_,by omega,by go_num,rfl,rfl,HS2,HE2,HB⟩
      case measure=>simp[intOf]<;>omega
    case cons t0 yt =>
     obtain⟨g7,dJ,cs,rfl,-,he7,hc7⟩:=ah.get H7.out (i:=0) (by simp) (by omega);obtain⟨tk,tn⟩:=t0;unfold Id.gU Id.Srt.cells at he7;subst he7;have e0:=hc7 0 _ rfl;have e1:=hc7 1 _ rfl;simp only[xK,Nat.zero_mul,List.getElem_cons_zero]at e0 e1;have JA:g7<w.heap.size:=xH w _ e0;have e0:=(HL.out.bel.cell JA).trans e0;have e1:=(HL.out.bel.cell JA).trans e1;have hn7:0<n7:=by rw[HN7.out];simp
     have Uw:(0:Int)<(n7:Int):=by omega
     clear hc7 HN7;by_cases h7:tk=7
     case neg =>
      have t7:((tk:Int)==7)=false:=by rw[xG];omega
      obtain rfl:T=true:=by rw[<-HT.out];show(tk != 7||_)=true;rw[bne_iff_ne.2 h7];rfl
      clear h7;cases bA<;>cases bB
      all_goals
       go_wp2_with fail;go_roundw
       case rel=>exact⟨j+1,_,_,by omega,by go_num,rfl,rfl,HS2,HE2,HB⟩
       case measure=>simp[intOf]<;>omega
     subst h7;have HT0:Hid (Chk.lvl (x.records.drop 0) (L.drop 0) tn=T):=hid HT.out;clear HT;go_wp2_with fail;go_loopw [15,14] (λi so wr=>∃(z:Nat),z<=n1/\i=.int .i64 z/\so=.bool false/\Hid (Chk.lvl (x.records.drop z) (L.drop z) tn=T)/\Hid (Below V3.heap.size V3 wr)) (λi _ _=>n1 - (intOf i).toNat)
     case atStart=>exact⟨0,by omega,rfl,rfl,HT0,hid (Below.refl _ _)⟩
     case round =>
      obtain⟨z,hz,rfl,rfl,HZ,HB4⟩:=hrel;obtain⟨V4,rfl⟩:∃ w',w'=wr:=⟨_,rfl⟩;have iz0:(0:Int)<=(z:Int):=by omega
      have HBB:=hid (HB.out.trans (HB4.out.mono HB.out.size));by_cases hlz:z<n1
      case neg =>
       obtain rfl:T=false:=by rw[<-HZ.out,Chk.O6 (by rw[<-HN1.out];omega)]
       cases bA<;>cases bB
       all_goals
        go_wp2_with fail;go_roundw
        case rel=>exact⟨j+1,_,_,by omega,by go_num,rfl,rfl,HS2,HE2,HBB⟩
        case measure=>simp[intOf]<;>omega
      have hkz:z<x.records.length:=by rw[<-HN1.out];exact hlz
      have hkl:z<L.length:=by rw[HLL.out];exact hlz
      have hd:=HZ.out;rw[Chk.O5 hkz hkl]at hd;obtain⟨g9,Rx,cs,e9,-,⟨u9,he9,-⟩,hc9⟩:=ah.get H1.out hkz (by omega);injection e9 with e9
      injection e9 with e9 e8
      subst e9 e8;subst he9;have d0:=hc9 0 _ rfl;simp only[xK]at d0;have d0:=((HL.out.below HB4.out).bel.cell aC).trans d0;have l0:=(HG3.out.below HBB.out HG3.out.lt).cell z;rw[zM hkl]at l0;generalize L[z]=lz at *;generalize(x.records[z]).name=zn at *;have HD:=hid hd;have e0:=(HB4.out.cell (Nat.lt_of_lt_of_le JA HL.out.bel.size)).trans e0;have e1:=(HB4.out.cell (Nat.lt_of_lt_of_le JA HL.out.bel.size)).trans e1;have iz1:(z:Int)<(n1:Int):=by omega
      obtain⟨⟨q0,q1,q2,q3⟩,-⟩:=(HL.out.below HB4.out).box.k4;clear hd hc9 hkz hkl HZ;cases ht:(zn.toList==tn.toList)
      case false =>
       have HZ2:Hid (Chk.lvl (x.records.drop (z+1)) (L.drop (z+1)) tn=T):=hid (by have h:=HD.out;rw[ht]at h;exact h);clear HD;go_wp2_with fail;go_quiet (fail);go_wp2_with fail;go_roundw
       case rel=>exact⟨z+1,by omega,by go_num,rfl,HZ2,hid (below_drewN HB4.out _)⟩
       case measure=>simp[intOf]<;>omega
      obtain rfl:lz=T:=by have h:=HD.out;rw[ht]at h;exact h
      have HBC:∀ n,Hid (Below W3.heap.size W3 (V4.drewN n)):=λn=>hid (below_drewN HBB.out n)
      have HBD:=hid HBC;clear HD HBC;go_wp2_with fail;go_quiet (fail);cases lz
      all_goals
       cases bA<;>cases bB
       all_goals
        go_wp2_with fail;go_roundw
        case rel=>exact⟨j+1,_,_,by omega,by go_num,rfl,rfl,HS2,HE2,HBD.out _⟩
        case measure=>simp[intOf]<;>omega
theorem DK(v:Value)(x:Id.Sch)(hF:Chk.Fine x)(w:World)(hv:Id.ay w none v x) :
  Calls Tryz.prog 249 #[v,.int .i64 5] w λe w'=>e=.returned (Chk.kL (Chk.ak (Chk.jV x.records (Chk.lvI x.records (x.records.length+2)))))/\Below w.heap.size w w':=by
 have HV:=hid hv;obtain⟨A1,n1,c1,A2,n2,c2,A3,n3,c3,rfl,r1,r2,r3⟩:=hv;have HN1:Hid (n1=x.records.length):=hid (by obtain⟨_,_,e,_⟩:=ah.slice r1;injection e);have hm1:n1<=9223372036854775807:=by obtain⟨_,_,e,_,_⟩:=ah.slice r1;injection e;omega
 have H1:=hid r1;have HN2:Hid (n2=x.services.length):=hid (by obtain⟨_,_,e,_⟩:=ah.slice r2;injection e);have hm2:n2<=9223372036854775807:=by obtain⟨_,_,e,_,_⟩:=ah.slice r2;injection e;omega
 have H2:=hid r2;have HN3:Hid (n3=x.sagas.length):=hid (by obtain⟨_,_,e,_⟩:=ah.slice r3;injection e);have hm3:n3<=9223372036854775807:=by obtain⟨_,_,e,_,_⟩:=ah.slice r3;injection e;omega
 have H3:=hid r3;clear r1 r2 r3;have HF:=hid hF;obtain⟨L,HLd⟩:∃ L,Hid (Chk.lvI x.records (x.records.length+2)=L):=⟨_,hid rfl⟩;have hLl:=Chk.kK x.records (x.records.length+2);rw[HLd.out]at hLl ⊢;obtain⟨R,HR⟩:∃ R,Hid (Chk.ak (Chk.jV x.records L)=R):=⟨_,hid rfl⟩;rw[HR.out];have HLL:Hid (L.length=n1):=hid (by rw[hLl,HN1.out]);clear hF hLl;go_enter Tryz.func249,Tryz.ntmps249;have hl1:n1<=1000:=by rw[HN1.out];exact HF.out.recs
 go_upto_region 1 with(fail)
 refine aj (λV hV=>?_);have HL:=hid (Chk.Lx.start hV);clear hV;obtain⟨⟨q0,q1,q2,q3⟩,-⟩:=HL.out.box.k4;have e1:((n1+1:Nat):Int)=(n1:Int)+1:=by omega
 have OM:=λW h=>Gp (.agg #[.string x.name,.slice A1 n1 c1,.slice A2 n2 c2,.slice A3 n3 c3]) x (n1+1) HF.out (by omega) W h
 rw[e1]at OM;have SE:=hid OM;clear OM;go_wp2_with fail;refine(SE.out _ (Id.ay.below HL.out.bel HV.out)).mono ?_;rintro e W1⟨g,rfl,hg,hb⟩;rw[<-HN1.out];have HG0:Hid (Bk W1 g 4 (lG L)):=hid (by rw[<-HLd.out,<-HN1.out];exact hg);have HL0:=hid (HL.out.below hb);clear hg hb HL q0 q1 q2 q3 SE e1;go_wp2_with fail;go_loopw [7] (λi wr=>∃(k:Nat),k<=n1/\i=.int .i64 k/\Hid (Chk.ak (Chk.jV (x.records.drop k) (L.drop k))=R)/\Hid (Bk wr g 4 (lG L))/\Hid (Chk.Lx w wr #[.string x.name,.slice A1 n1 c1,.slice A2 n2 c2,.slice A3 n3 c3])) (λi _=>n1 - (intOf i).toNat)
 case atStart=>exact⟨0,by omega,rfl,HR,HG0,HL0⟩
 case round =>
  clear HR HG0 HL0;obtain⟨k,hk,rfl,HI,HG,HL⟩:=hrel;obtain⟨V1,rfl⟩:∃ w',w'=wr:=⟨_,rfl⟩;have ik0:(0:Int)<=(k:Int):=by omega
  obtain⟨⟨q0,q1,q2,q3⟩,-⟩:=HL.out.box.k4;by_cases hlt:k<n1
  case neg =>
   have HE:Hid (R=none):=hid (by have h:=HI.out;rw[xP (by have:=HN1.out;omega)]at h;exact h.symm);go_wp2_with fail;go_ret2;exact⟨by rw[HE.out];rfl,HL.out.bel⟩
  have aX:k<x.records.length:=by rw[<-HN1.out];exact hlt
  obtain⟨g1,off1,cs,rfl,-,⟨u,he,HU⟩,hc⟩:=ah.get H1.out aX (by omega);obtain⟨r,Hr⟩:∃ r,Hid (x.records[k]=r):=⟨_,hid rfl⟩;rw[Hr.out]at he HU;obtain⟨rn,rc,rf⟩:=r;subst he;simp only at HU hc;obtain⟨A5,n5,c5,rfl⟩:=ah.is HU;have HN5:Hid (n5=rf.length):=hid (by obtain⟨_,_,e,_⟩:=ah.slice HU;injection e);have hm5:n5<=9223372036854775807:=by obtain⟨_,_,e,_,_⟩:=ah.slice HU;injection e;omega
  have H5:=hid HU;have HDk:Hid (x.records.drop k=⟨rn,rc,rf⟩::x.records.drop (k+1)):=hid (by rw[xQ aX,Hr.out]);have b0:=hc 0 _ rfl;have b1:=hc 1 _ rfl;have b2:=hc 2 _ rfl;simp only[xK]at b0;have aC:g1<w.heap.size:=xH w _ b0;have b0:=(HL.out.bel.cell aC).trans b0;have b1:=(HL.out.bel.cell aC).trans b1;have b2:=(HL.out.bel.cell aC).trans b2;have i11:(k:Int)<(n1:Int):=by omega
  clear hc HU Hr;have hkl:k<L.length:=by rw[HLL.out];exact hlt
  have hd:=HI.out;rw[HDk.out,xQ hkl]at hd;have l0:=HG.out.cell k;rw[zM hkl]at l0;generalize L[k]=lk at *;have hd2:Chk.ak ((lk,rn)::Chk.jV (x.records.drop (k+1)) (L.drop (k+1)))=R:=hd;have HD:=hid hd2;have HGl:=HG.out.lt;have qP:¬g=V1.heap.size:=by omega
  clear hd hd2 HI hkl;have hl0:∀ W,Below V1.heap.size V1 W->W.cell? ⟨g,k,none⟩=some (.bool lk):=λW hW=>(hW.cell HGl).trans l0
  have HL0:=hid hl0;clear hl0 l0;go_upto_region 8 with(fail)
  refine aj (λW2 hW2=>?_);obtain⟨hb,hq,-⟩:=au hW2;clear hW2 q0 q1 q2 q3 b0 b1 b2;have l0:=HL0.out W2 hb;have HG2:=hid (HG.out.below hb HG.out.lt);have HL2:=hid (HL.out.below hb);obtain⟨⟨b0,b1,b2⟩,-⟩:=hq.k3;clear hq hb HL0 HGl HG HL;cases lk
  case false =>
   have HE:Hid (R=some rn):=hid HD.out.symm;go_wp2_with fail;go_ret2;exact⟨by rw[HE.out];rfl,HL2.out.bel⟩
  have HI2:Hid (Chk.ak (Chk.jV (x.records.drop (k+1)) (L.drop (k+1)))=R):=HD;go_wp2_with fail;go_roundw
  case rel=>exact⟨k+1,by omega,by go_num,HI2,HG2,HL2⟩
  case measure=>simp[intOf]<;>omega
