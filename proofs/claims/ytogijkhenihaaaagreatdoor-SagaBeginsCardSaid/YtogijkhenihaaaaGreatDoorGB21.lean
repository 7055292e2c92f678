import Derived.Test.YtogijkhenihaaaaGreatDoorGB19
set_option linter.all false
set_option maxRecDepth 100000
set_option maxHeartbeats 0
namespace Go.Proofs.YtogijkhenihaaaaGreatDoor
open Lib (hid)
section
open Go.BigFrame Go.RowKit
namespace Prn
open Id Chk
def sS(t:List Srt):ByteArray:=if t.length<=12/\okP t=true then jn (t.map bH)else⟨#[]⟩
theorem Oy{t:List Srt}{k:Nat}(h:k+1<t.length):okP (t.drop k)=(mid (t[k]'(by omega))&&okP (t.drop (k+1))):=by
 rw[xQ (show k<t.length by omega),xQ h];rfl
theorem Ox{t:List Srt}{k:Nat}(h:k+1=t.length):okP (t.drop k)=uG (t[k]'(by omega)):=by
 rw[xQ (show k<t.length by omega),xP (by omega)];rfl
theorem uY{t:List Srt}(h:okP t=true):∀ u∈t.map bH,u.size<=32:=λu hu=>by
 obtain⟨x,hx,rfl⟩:=List.mem_map.1 hu;exact(tY h x hx).2
end Prn
theorem LV(tv:Value)(t:List Id.Srt)(w:World)(hk:Tk.KW w)(ht:Id.bG w none tv t) :
  Calls Tryz.prog 120 #[tv] w λe w'=>e=.returned (.string (Prn.sS t))/\Below w.heap.size w w':=by
 obtain⟨T,HT⟩:∃ T,Hid (Prn.sS t=T):=⟨_,hid rfl⟩;rw[HT.out];unfold Prn.sS at HT;have HKW:=hid hk;have HS:=hid ht;obtain⟨A,n,c,rfl⟩:=ah.is ht;have HN:Hid (n=t.length):=hid (by obtain⟨_,_,e,_⟩:=ah.slice ht;injection e);have hm:n<=9223372036854775807:=by obtain⟨_,_,e,_,_⟩:=ah.slice ht;injection e;omega
 clear hk ht;by_cases h12:n<=12
 case neg =>
  have HE:Hid (T=⟨#[]⟩):=hid (by rw[<-HT.out,if_neg (by rw[<-HN.out];exact λh=>h12 h.1)]);have h0:((n:Int)==0)=false:=by rw[xG];omega
  have h0b:¬(n:Int)=0:=by omega
  have h1:(12:Int)<(n:Int):=by omega
  have h2:12<n:=by omega
  clear h12;go_enter Tryz.func120,Tryz.ntmps120;go_wp2_with fail;go_ret;exact⟨by rw[HE.out];rfl,Below.refl _ _⟩
 by_cases h00:n=0
 case pos =>
  have HE:Hid (T=⟨#[]⟩):=hid (by rw[<-HT.out,if_neg (by rw[List.length_eq_zero_iff.1 (HN.out.symm.trans h00)];exact λh=>by cases h.2)]);subst h00;try simp only[xY]at *
  go_enter Tryz.func120,Tryz.ntmps120;go_wp2_with fail;go_ret;exact⟨by rw[HE.out];rfl,Below.refl _ _⟩
 obtain⟨R,HR⟩:∃ R,Hid (Prn.okP t=R):=⟨_,hid rfl⟩;have HTT:Hid ((if R=true then Prn.jn (t.map Prn.bH)else⟨#[]⟩)=T):=hid (by rw[<-HT.out,HR.out];simp only[<-HN.out,h12,true_and]);have HNO:Hid (R=false->T=⟨#[]⟩):=hid (λh=>by rw[<-HTT.out,if_neg (by rw[h];decide)]);have h0:((n:Int)==0)=false:=by rw[xG];omega
 have h0b:¬(n:Int)=0:=by omega
 have h1:¬(12:Int)<(n:Int):=by omega
 have h2:¬12<n:=by omega
 have hn1:1<=n:=by omega
 clear h00 HT;go_enter Tryz.func120,Tryz.ntmps120;go_wp2_with fail;go_loopw [17] (λi wr=>∃(k:Nat),k<=n/\i=.int .i64 k/\Hid ((k<n->Prn.okP (t.drop k)=R)/\(k=n->R=true))/\Hid (Below w.heap.size w wr)) (λi _=>n - (intOf i).toNat)
 case atStart=>exact⟨0,by omega,rfl,hid ⟨λ_=>HR.out,λh=>by omega⟩,hid (Below.refl _ _)⟩
 case round =>
  obtain⟨k,hk,rfl,HK,HB⟩:=hrel;obtain⟨V,rfl⟩:∃ w',w'=wr:=⟨_,rfl⟩;have ik0:(0:Int)<=(k:Int):=by omega
  by_cases hlt:k<n
  case neg =>
   obtain rfl:k=n:=by omega
   have hRt:=HK.out.2 rfl;have HRO:Hid (Prn.okP t=true):=hid (by rw[HR.out];exact hRt);have HE:Hid (Prn.jn (t.map Prn.bH)=T):=hid (by rw[<-HTT.out,if_pos hRt]);have hbs:=HB.out.size;clear hRt HK;go_upto_region 24 with(fail)
   refine aj (λW2 hW=>?_);obtain⟨hbx,hqx,-⟩:=au hW;have HP:=hid (Prn.Put.start (w0:=V) (b:=V.heap.size) (L:=[]) hbx ⟨xB _,hbx.size,_,hqx,ah.nil _ _ _ _ _⟩);clear hW hqx;have HB2:=hid (HB.out.trans (hbx.mono hbs));clear hbx;go_wp2_with fail;refine(ql V.heap.size _ t _ V W2 HP.out.bel HP.out.wr (λw' hb _=>ah.below (ah.below HS.out HB.out (λ_ _ h=>h)) hb (λ_ _ h=>h)) (by simp only[xO,xI,<-HN.out];omega)).mono ?_;rintro e W3⟨rfl,hp⟩;have HP3:=hid (HP.out.step hp);clear hp;go_wp2_with fail;have hjl:=Prn.Jz (Prn.uY HRO.out);rw[List.length_map,<-HN.out]at hjl;refine(Am V.heap.size (t.map Prn.bH) V.heap.size W3 (by have h:=HP3.out.wr;rw[yI,yI]at h;exact h) (by simp only[List.length_map,<-HN.out];omega) (by omega)).mono ?_;rw[HE.out];rintro e W4⟨rfl,hb4⟩;have HB4:=hid (HB.out.trans ((HP3.out.bel.trans (hb4.mono HP3.out.bel.size)).mono hbs));clear hb4 hjl;go_wp2_with fail;go_ret;exact⟨rfl,HB4.out⟩
  have hka:k<t.length:=by rw[<-HN.out];exact hlt
  have hK:=HK.out.1 hlt;obtain⟨g,off,cs,rfl,-,e1,hc⟩:=ah.get HS.out hka (by omega);have HX:Hid ((k+1<n->Prn.okP (t.drop k)=(Chk.mid t[k]&&Prn.okP (t.drop (k+1))))/\(k+1=n->Prn.okP (t.drop k)=Prn.uG t[k])):=hid ⟨λh=>Prn.Oy (by rw[<-HN.out];exact h),λh=>Prn.Ox (by rw[<-HN.out];exact h)⟩;obtain⟨⟨yk,yn⟩,Hy⟩:∃ y,Hid (t[k]=y):=⟨_,hid rfl⟩;rw[hK,Hy.out]at HX;rw[Hy.out]at e1;unfold Id.gU Id.Srt.cells at e1;subst e1;have a0:=hc 0 _ rfl;have a1:=hc 1 _ rfl;simp only[xK]at a0;have hgl:g<w.heap.size:=xH w _ a0;have a0:=(HB.out.cell hgl).trans a0;have a1:=(HB.out.cell hgl).trans a1;have hbs:=HB.out.size;have qP:¬g=V.heap.size:=by omega
  have ik1:(k:Int)<(n:Int):=by omega
  clear hc Hy hka hK HK;go_upto_region 6 with(fail)
  refine aj (λV1 hW=>?_);obtain⟨hbx,hqx,-⟩:=au hW;have HB1:=hid (HB.out.trans (hbx.mono hbs));obtain⟨⟨b0,b1⟩,-⟩:=hqx.k2;clear hW hbx hqx a0 a1 HB;by_cases hl:k+1=n
  case pos =>
   have hf:=HX.out.2 hl;have HFN:=hid hf;have l1:((k:Int)==(n:Int) - 1)=true:=by rw[beq_iff_eq];omega
   have l2:(k:Int)=(n:Int) - 1:=by omega
   clear hf;by_cases h5:yk=5
   case pos =>
    subst h5;have HE:Hid (T=⟨#[]⟩):=hid (HNO.out (HFN.out.trans rfl));clear HX;go_wp2_with fail;go_ret;exact⟨by rw[HE.out];rfl,HB1.out⟩
   by_cases h6:yk=6
   case pos =>
    subst h6;have HE:Hid (T=⟨#[]⟩):=hid (HNO.out (HFN.out.trans rfl));clear HX;go_wp2_with fail;go_ret;exact⟨by rw[HE.out];rfl,HB1.out⟩
   by_cases h1:yk=1
   case pos =>
    subst h1;have hf:R=yn.toList.isEmpty:=HFN.out;cases hne:yn.toList.isEmpty
    case false =>
     have HE:Hid (T=⟨#[]⟩):=hid (HNO.out (hf.trans hne));clear HX;go_wp2_with fail;go_ret;exact⟨by rw[HE.out];rfl,HB1.out⟩
    have hRt:R=true:=hf.trans hne;clear hf;have HK2:Hid ((k+1<n->Prn.okP (t.drop (k+1))=R)/\(k+1=n->R=true)):=hid (⟨λh=>by omega,λ_=>hRt⟩);clear HX;go_wp2_with fail;go_roundw
    case rel=>exact⟨k+1,by omega,by go_num,HK2,HB1⟩
    case measure=>simp[intOf]<;>omega
   by_cases h2:yk=2
   case pos =>
    subst h2;have hf:R=yn.toList.isEmpty:=HFN.out;cases hne:yn.toList.isEmpty
    case false =>
     have HE:Hid (T=⟨#[]⟩):=hid (HNO.out (hf.trans hne));clear HX;go_wp2_with fail;go_ret;exact⟨by rw[HE.out];rfl,HB1.out⟩
    have hRt:R=true:=hf.trans hne;clear hf;have HK2:Hid ((k+1<n->Prn.okP (t.drop (k+1))=R)/\(k+1=n->R=true)):=hid (⟨λh=>by omega,λ_=>hRt⟩);clear HX;go_wp2_with fail;go_roundw
    case rel=>exact⟨k+1,by omega,by go_num,HK2,HB1⟩
    case measure=>simp[intOf]<;>omega
   by_cases h3:yk=3
   case pos =>
    subst h3;have hf:R=yn.toList.isEmpty:=HFN.out;cases hne:yn.toList.isEmpty
    case false =>
     have HE:Hid (T=⟨#[]⟩):=hid (HNO.out (hf.trans hne));clear HX;go_wp2_with fail;go_ret;exact⟨by rw[HE.out];rfl,HB1.out⟩
    have hRt:R=true:=hf.trans hne;clear hf;have HK2:Hid ((k+1<n->Prn.okP (t.drop (k+1))=R)/\(k+1=n->R=true)):=hid (⟨λh=>by omega,λ_=>hRt⟩);clear HX;go_wp2_with fail;go_roundw
    case rel=>exact⟨k+1,by omega,by go_num,HK2,HB1⟩
    case measure=>simp[intOf]<;>omega
   by_cases h4:yk=4
   case pos =>
    subst h4;have hf:R=yn.toList.isEmpty:=HFN.out;cases hne:yn.toList.isEmpty
    case false =>
     have HE:Hid (T=⟨#[]⟩):=hid (HNO.out (hf.trans hne));clear HX;go_wp2_with fail;go_ret;exact⟨by rw[HE.out];rfl,HB1.out⟩
    have hRt:R=true:=hf.trans hne;clear hf;have HK2:Hid ((k+1<n->Prn.okP (t.drop (k+1))=R)/\(k+1=n->R=true)):=hid (⟨λh=>by omega,λ_=>hRt⟩);clear HX;go_wp2_with fail;go_roundw
    case rel=>exact⟨k+1,by omega,by go_num,HK2,HB1⟩
    case measure=>simp[intOf]<;>omega
   by_cases h7:yk=7
   case pos =>
    subst h7;have HF7:Hid (R=Tk.isName yn):=hid HFN.out;obtain⟨b,HBN⟩:∃ b,Hid (Tk.isName yn=b):=⟨_,hid rfl⟩;go_wp2_with fail;refine(name_any yn _ (HKW.out.below HB1.out)).mono ?_;rw[HBN.out];rintro e V2⟨rfl,hb2⟩;have HBz:=hid (HB1.out.trans (hb2.mono HB1.out.size));clear hb2 b0 b1;cases b
    case false =>
     have HE:Hid (T=⟨#[]⟩):=hid (HNO.out (HF7.out.trans HBN.out));go_wp2_with fail;go_ret;exact⟨by rw[HE.out];rfl,HBz.out⟩
    have hRt:R=true:=HF7.out.trans HBN.out;have HK2:Hid ((k+1<n->Prn.okP (t.drop (k+1))=R)/\(k+1=n->R=true)):=hid (⟨λh=>by omega,λ_=>hRt⟩);clear HX;go_wp2_with fail;go_roundw
    case rel=>exact⟨k+1,by omega,by go_num,HK2,HBz⟩
    case measure=>simp[intOf]<;>omega
   have hRf:R=false:=by rw[HFN.out];unfold Prn.uG;simp only[h1,h2,h3,h4,h7,false_or,or_self,if_false]
   have t5:((yk:Int)==5)=false:=by rw[xG];omega
   have t6:((yk:Int)==6)=false:=by rw[xG];omega
   have t1:((yk:Int)==1)=false:=by rw[xG];omega
   have t2:((yk:Int)==2)=false:=by rw[xG];omega
   have t3:((yk:Int)==3)=false:=by rw[xG];omega
   have t4:((yk:Int)==4)=false:=by rw[xG];omega
   have t7:((yk:Int)==7)=false:=by rw[xG];omega
   have HRF:=hid hRf;clear hRf h5 h6 h1 h2 h3 h4 h7;have HE:Hid (T=⟨#[]⟩):=hid (HNO.out (HRF.out));clear HX;go_wp2_with fail;go_ret;exact⟨by rw[HE.out];rfl,HB1.out⟩
  have hf:=HX.out.1 (by omega);have HFN:=hid hf;have l1:((k:Int)==(n:Int) - 1)=false:=by rw[xG];omega
  have l2:¬(k:Int)=(n:Int) - 1:=by omega
  clear hf;by_cases h5:yk=5
  case pos =>
   subst h5;have hf:R=(yn.toList.isEmpty&&Prn.okP (t.drop (k+1))):=HFN.out;cases hne:yn.toList.isEmpty
   case false =>
    have HE:Hid (T=⟨#[]⟩):=hid (HNO.out (by rw[hf,hne];rfl));clear HX;go_wp2_with fail;go_ret;exact⟨by rw[HE.out];rfl,HB1.out⟩
   have HK3:Hid (Prn.okP (t.drop (k+1))=R):=hid (by rw[hf,hne];rfl);clear hf;have HK2:Hid ((k+1<n->Prn.okP (t.drop (k+1))=R)/\(k+1=n->R=true)):=hid (⟨λ_=>HK3.out,λh=>absurd h hl⟩);clear HX;go_wp2_with fail;go_roundw
   case rel=>exact⟨k+1,by omega,by go_num,HK2,HB1⟩
   case measure=>simp[intOf]<;>omega
  by_cases h6:yk=6
  case pos =>
   subst h6;have hf:R=(yn.toList.isEmpty&&Prn.okP (t.drop (k+1))):=HFN.out;cases hne:yn.toList.isEmpty
   case false =>
    have HE:Hid (T=⟨#[]⟩):=hid (HNO.out (by rw[hf,hne];rfl));clear HX;go_wp2_with fail;go_ret;exact⟨by rw[HE.out];rfl,HB1.out⟩
   have HK3:Hid (Prn.okP (t.drop (k+1))=R):=hid (by rw[hf,hne];rfl);clear hf;have HK2:Hid ((k+1<n->Prn.okP (t.drop (k+1))=R)/\(k+1=n->R=true)):=hid (⟨λ_=>HK3.out,λh=>absurd h hl⟩);clear HX;go_wp2_with fail;go_roundw
   case rel=>exact⟨k+1,by omega,by go_num,HK2,HB1⟩
   case measure=>simp[intOf]<;>omega
  have HRF:Hid (R=false):=hid (by rw[HFN.out];unfold Chk.mid;simp[h5,h6]);by_cases h1:yk=1
  case pos =>
   subst h1;have HE:Hid (T=⟨#[]⟩):=hid (HNO.out (HRF.out));clear HX;go_wp2_with fail;go_ret;exact⟨by rw[HE.out];rfl,HB1.out⟩
  by_cases h2:yk=2
  case pos =>
   subst h2;have HE:Hid (T=⟨#[]⟩):=hid (HNO.out (HRF.out));clear HX;go_wp2_with fail;go_ret;exact⟨by rw[HE.out];rfl,HB1.out⟩
  by_cases h3:yk=3
  case pos =>
   subst h3;have HE:Hid (T=⟨#[]⟩):=hid (HNO.out (HRF.out));clear HX;go_wp2_with fail;go_ret;exact⟨by rw[HE.out];rfl,HB1.out⟩
  by_cases h4:yk=4
  case pos =>
   subst h4;have HE:Hid (T=⟨#[]⟩):=hid (HNO.out (HRF.out));clear HX;go_wp2_with fail;go_ret;exact⟨by rw[HE.out];rfl,HB1.out⟩
  by_cases h7:yk=7
  case pos =>
   subst h7;have HE:Hid (T=⟨#[]⟩):=hid (HNO.out (HRF.out));clear HX;go_wp2_with fail;go_ret;exact⟨by rw[HE.out];rfl,HB1.out⟩
  have t5:((yk:Int)==5)=false:=by rw[xG];omega
  have t6:((yk:Int)==6)=false:=by rw[xG];omega
  have t1:((yk:Int)==1)=false:=by rw[xG];omega
  have t2:((yk:Int)==2)=false:=by rw[xG];omega
  have t3:((yk:Int)==3)=false:=by rw[xG];omega
  have t4:((yk:Int)==4)=false:=by rw[xG];omega
  have t7:((yk:Int)==7)=false:=by rw[xG];omega
  clear h5 h6 h1 h2 h3 h4 h7;have HE:Hid (T=⟨#[]⟩):=hid (HNO.out (HRF.out));clear HX;go_wp2_with fail;go_ret;exact⟨by rw[HE.out];rfl,HB1.out⟩
end
namespace Prn
open Id Chk
theorem type_of{s:ByteArray}{l:List Tk.Tok}{a:Nat}{x:List Srt}(ht:Tk.all s=(l,a,0))(hr:sorts (l,false)=(x,([],false))):Id.type s=(x,0,0):=zU ht hr
theorem KZ{t:List Srt}(h:okP t=true)(hl:t.length<=12):Id.type (jn (t.map bH))=(t,0,0):=by
 have ho:lH (t.map lU):=λu hu=>by
  obtain⟨x,hx,rfl⟩:=List.mem_map.1 hu;exact tY h x hx
 have hsz:(jn (t.map bH)).size<=65536:=by
  rw[Qo];have:=Jz (uY h);rw[List.length_map]at this;omega
 have ha:=Pm ho (by rw[zo];exact hsz);rw[zo]at ha;have hr:=NS h [];rw[List.append_nil]at hr;exact type_of ha (Gt PN (FX t) hr)
end Prn
section
open Go.BigFrame Go.RowKit
namespace Vl
open Id Chk
structure Node where
 kind:Nat
 int:Int
 text:ByteArray
 kids:Int
def Node.cells(n:Node):List Value:=[.int .u8 n.kind,.int .i64 n.int,.string n.text,.int .i64 n.kids]
def x9(w:World)(cs:List Value)(n:Node):Prop:=cs=n.cells
def bT(w:World)(B:Option Nat)(v:Value)(l:List Node):Prop:=ah w B 92 4 x9 v l
def nmd(rn:ByteArray):List Srt:=[⟨7,rn⟩]
end Vl
namespace Vl
open Id Chk Prn
theorem yL(t:List Srt):(sS t).toList.isEmpty=!(decide (t.length<=12)&&okP t):=by
 unfold sS;by_cases h:t.length<=12/\okP t=true
 ·rw[if_pos h,decide_eq_true h.1,h.2]
  cases he:(jn (t.map bH)).toList.isEmpty
  ·rfl
  ·exfalso
   have h1:=KZ h.2 h.1;rw[empty_of he]at h1;have h2:(Id.type (⟨#[]⟩:ByteArray)).2.2=120:=by decide +kernel
   rw[h1]at h2;cases h2
 ·rw[if_neg h]
  have:(decide (t.length<=12)&&okP t)=false:=by
   rw[Bool.eq_false_iff];intro h2;rw[xX,decide_eq_true_eq]at h2;exact h h2
  rw[this];decide +kernel
def uT(s:Sch)(t:List Srt):Bool:=match t.getLast? with
 |none=>false
 |some x=>x.kind != 7||(find s x.name).isSome
theorem MZ{s:Sch}{n:ByteArray}{r:Rec}(h:find s n=some r):r∈s.records/\r.name=n:=by
 unfold find at h;refine⟨List.mem_of_find?_eq_some h,Tk.text_eq ?_⟩;have:=List.find?_some h;simpa using this
theorem OY{s:Sch}(h:Right s)(x:Srt):fin s x=(uG x&&(x.kind != 7||(find s x.name).isSome)):=by
 unfold fin uG;by_cases h1:x.kind=1∨x.kind=2∨x.kind=3∨x.kind=4
 ·rw[if_pos h1,if_pos h1,show(x.kind != 7)=true by rw[bne_iff_ne];omega]
  simp
 ·rw[if_neg h1,if_neg h1]
  by_cases h7:x.kind=7
  ·rw[if_pos h7,if_pos h7,show(x.kind != 7)=false by rw[h7];rfl,Bool.false_or]
   cases hf:find s x.name with
   |none=>simp
   |some r =>
    obtain⟨hr,hn⟩:=MZ hf;have:=(qm h).rn r hr;rw[hn]at this;rw[this];rfl
  ·rw[if_neg h7,if_neg h7,Bool.false_and]
theorem rQ{s:Sch}(h:Right s):∀ t:List Srt,okT s t=(okP t&&uT s t)
 |[]=>rfl
 |[x]=>OY h x
 |x::y::l=>by
  show(mid x&&okT s (y::l))=(mid x&&okP (y::l)&&uT s (x::y::l))
  rw[rQ h (y::l),Bool.and_assoc];rfl
theorem Gq{s:Sch}(h:Right s)(t:List Srt):right s t=(!(sS t).toList.isEmpty&&uT s t):=by
 rw[yL,Bool.not_not];unfold right;rw[rQ h,Bool.and_assoc]
theorem vG{s:Sch}{x:Srt}{t:List Srt}(h:okT s (x::t)=true)(hx:x.kind=5∨x.kind=6):okT s t=true:=by
 cases t with
 |nil =>
  have h:fin s x=true:=h;unfold fin at h;rw[if_neg (by omega),if_neg (by omega)]at h;cases h
 |cons y l =>
  have h:(mid x&&okT s (y::l))=true:=h;rw[xX]at h;exact h.2
theorem pF{s:Sch}{x:Srt}{t:List Srt}(h:okT s (x::t)=true):(x.kind=1∨x.kind=2∨x.kind=3∨x.kind=4)∨x.kind=5∨x.kind=6∨(x.kind=7/\t=[]/\(find s x.name).isSome=true):=by
 cases t with
 |nil =>
  have h:fin s x=true:=h;unfold fin at h;by_cases h1:x.kind=1∨x.kind=2∨x.kind=3∨x.kind=4
  ·exact .inl h1
  ·rw[if_neg h1]at h
   by_cases h7:x.kind=7
   ·rw[if_pos h7]at h
    exact .inr (.inr (.inr ⟨h7,rfl,h⟩))
   ·rw[if_neg h7]at h
    cases h
 |cons y l =>
  have h:(mid x&&okT s (y::l))=true:=h;rw[xX]at h;have:=h.1;unfold mid at this;simp only[xX,Bool.or_eq_true,beq_iff_eq]at this;omega
theorem lJ{s:Sch}{t:List Srt}(h:okT s t=true):t≠[]:=λe=>by subst e;cases h
theorem lZ{s:Sch}{t:List Srt}(h:right s t=true):okT s t=true/\t.length<=12:=by
 unfold right at h;rw[xX,decide_eq_true_eq]at h;exact⟨h.2,h.1⟩
theorem nV{s:Sch}(h:Right s){r:Rec}(hr:r∈s.records){f:Fld}(hf:f∈r.fields):right s f.type=true:=by
 have ht:=(oD.1 h).2.2.2.1;exact ht (right s f.type,Chk.part r.name f.name) (List.mem_append_left _ (List.mem_flatMap.2 ⟨r,hr,List.mem_flatMap.2 ⟨f,hf,by simp[nN]⟩⟩))
end Vl
namespace Vl
open Id Chk Prn
end Vl
namespace Vl
open Id Chk Prn
end Vl
namespace Vl
open Id Chk Prn
end Vl
end
namespace Ev
def acc(l:List UInt8):Nat->Nat
 |0=>0
 |i+1=>acc l i ||| ((l.getD i 0).toNat % 128 * 2 ^ (7 * i) % 18446744073709551616)
theorem N7(l:List UInt8):∀ i,acc l i<18446744073709551616
 |0=>by simp[acc]
 |i+1=>Nat.or_lt_two_pow (n:=64) (N7 l i) (Nat.mod_lt _ (by decide))
theorem Qd{a b:Nat}(i:Nat)(ha:a<2 ^ i)(hb:b % 2 ^ i=0):a ||| b=a+b:=by
 have h2:2 ^ i * (b / 2 ^ i)=b:=by have:=Nat.div_add_mod b (2 ^ i);omega
 have h:=Nat.two_pow_add_eq_or_of_lt ha (b / 2 ^ i);rw[Nat.or_comm,<-h2,<-h,Nat.add_comm]
theorem Ar(i:Nat):(2:Nat) ^ (7 * i)=128 ^ i:=Nat.pow_mul 2 7 i
end Ev
namespace Cd
open Ev
def nmF(l:List UInt8):Nat->Nat->Except Bool (Nat × Nat)
 |0,_=>.error true
 |g+1,i=>if i<l.length then(if i=9/\1<(l.getD i 0).toNat then .error true else if(l.getD i 0).toNat<128 then(if(l.getD i 0).toNat=0/\0<i then .error true else .ok (acc l (i+1),i+1))else nmF l g (i+1))else .error false
def num(b:List UInt8)(p:Nat):Except (Nat × Nat) (Nat × Nat):=match nmF (b.drop p) 10 0 with
 | .ok q=>.ok (q.1,p+q.2)
 | .error true=>.error (p,162)
 | .error false=>.error (b.length,160)
def bit(b:List UInt8)(p:Nat):Except (Nat × Nat) (Nat × Nat):=if p<b.length then(if 1<(b.getD p 0).toNat then .error (p,162)else .ok ((b.getD p 0).toNat,p+1))else .error (b.length,160)
theorem zN{l:List UInt8}{i:Nat}(h9:i<=9)(ha:acc l i<128 ^ i)(hc:(l.getD i 0).toNat % 128<128)(h1:i=9->(l.getD i 0).toNat % 128<2):acc l (i+1)=acc l i+(l.getD i 0).toNat % 128 * 128 ^ i:=by
 have hle:128 ^ i<=128 ^ 9:=Nat.pow_le_pow_right (by decide) h9;have hp9:(128:Nat) ^ 9=9223372036854775808:=by decide
 have hlt:(l.getD i 0).toNat % 128 * 128 ^ i<18446744073709551616:=by
  by_cases h:i=9
  ·have:=h1 h
   have h2:(l.getD i 0).toNat % 128 * 128 ^ i<=1 * 128 ^ i:=Nat.mul_le_mul_right _ (by omega);omega
  ·have hps:128 ^ (i+1)=128 ^ i * 128:=Nat.pow_succ ..
   have hle2:128 ^ (i+1)<=128 ^ 9:=Nat.pow_le_pow_right (by decide) (by omega);have h2:(l.getD i 0).toNat % 128 * 128 ^ i<=127 * 128 ^ i:=Nat.mul_le_mul_right _ (by omega);omega
 simp only[acc];rw[Ar,Nat.mod_eq_of_lt hlt,Qd (7 * i) (by rw[Ar];exact ha) (by rw[Ar];exact Nat.mul_mod_left _ _)]
theorem MJ(l:List UInt8):∀(g i u j:Nat),g+i=10->acc l i<128 ^ i->nmF l g i=.ok (u,j) ->
  ∃ y,(0<i->y≠0)/\u=acc l i+128 ^ i * y/\y<2 * 128 ^ (9 - i)/\l.drop i=Bq (9 - i) y++l.drop j/\i<j/\j<=l.length
 |0,i,u,j,hg,ha,h=>by unfold nmF at h;cases h
 |g+1,i,u,j,hg,ha,h=>by
  unfold nmF at h;split at h
  ·rename_i hi
   split at h
   ·cases h
   ·rename_i h9
    have hd:l.drop i=(l.getD i 0)::l.drop (i+1):=by
     rw[xQ hi,yG,yF hi,Option.getD_some]
    have hcb:(l.getD i 0).toNat<256:=UInt8.toNat_lt _;split at h
    ·rename_i hc
     split at h
     ·cases h
     ·rename_i h0
      injection h with h
      injection h with h1 h2
      subst h1 h2;have hm:(l.getD i 0).toNat % 128=(l.getD i 0).toNat:=Nat.mod_eq_of_lt hc;refine⟨(l.getD i 0).toNat,λhi0 h=>h0 ⟨h,hi0⟩,?_,?_,?_,Nat.lt_succ_self _,hi⟩
      ·rw[zN (by omega) ha (by omega) (λh=>by omega),hm,Nat.mul_comm]
      ·by_cases hi9:i=9
       ·have h2:¬1<(l.getD i 0).toNat:=λh=>h9 ⟨hi9,h⟩
        rw[hi9]at h2 ⊢;show _<2 * 128 ^ 0
        omega
       ·have:128 ^ 1<=128 ^ (9 - i):=Nat.pow_le_pow_right (by decide) (by omega)
        omega
      ·rw[hd]
       have hv:Bq (9 - i) (l.getD i 0).toNat=[UInt8.ofNat (l.getD i 0).toNat]:=by
        cases h9i:9 - i with
        |zero=>rfl
        |succ m=>unfold Bq;rw[if_pos hc]
       rw[hv,UInt8.ofNat_toNat,List.singleton_append]
    ·rename_i hc
     have hi8:i<=8:=by
      rcases Nat.lt_or_ge i 9 with h'|h'
      ·omega
      ·exact absurd ⟨by omega,by omega⟩ h9
     have ha':=zN (by omega) ha (Nat.mod_lt _ (by decide)) (λh=>by omega);have hps:128 ^ (i+1)=128 ^ i * 128:=Nat.pow_succ ..;have hb:(l.getD i 0).toNat % 128 * 128 ^ i<=127 * 128 ^ i:=Nat.mul_le_mul_right _ (by omega);obtain⟨y,y0,hu,hy,hl,hj,hjl⟩:=MJ l g (i+1) u j (by omega) (by omega) h;have y0:=y0 (by omega);obtain⟨c,hcn⟩:∃ c,(l.getD i 0).toNat=c+128:=⟨(l.getD i 0).toNat - 128,by omega⟩;have hcm:(l.getD i 0).toNat % 128=c:=by omega
     refine⟨c+128 * y,λ_=>by omega,?_,?_,?_,by omega,hjl⟩
     ·rw[hu,ha',hcm,hps,Nat.mul_add,Nat.mul_comm c,Nat.mul_assoc,Nat.add_assoc]
     ·have:128 ^ (9 - i)=128 ^ (9 - (i+1)) * 128:=by rw[<-Nat.pow_succ];congr 1;omega
      omega
     ·rw[hd,show 9 - i=(9 - (i+1))+1 by omega]
      unfold Bq;rw[if_neg (by omega),show(c+128 * y) % 128+128=(l.getD i 0).toNat by omega,show(c+128 * y) / 128=y by omega,UInt8.ofNat_toNat,List.cons_append,<-hl]
  ·cases h
theorem uQ{b:List UInt8}{p u q:Nat}(h:num b p=.ok (u,q)):u<18446744073709551616/\b.drop p=var u++b.drop q/\p<q/\q<=b.length:=by
 unfold num at h;split at h
 ·rename_i x hx
  injection h with h
  injection h with h1 h2
  obtain⟨y,-,hu,hy,hl,hj,hjl⟩:=MJ (b.drop p) 10 0 x.1 x.2 rfl (by simp[acc]) hx;have hacc:acc (b.drop p) 0=0:=rfl;rw[hacc]at hu;simp only[Nat.pow_zero,Nat.one_mul,Nat.zero_add,Nat.sub_zero,List.drop_zero,List.drop_drop]at hu hl hy;rw[List.length_drop]at hjl;subst h2;rw[<-h1,hu];exact⟨by simpa using hy,hl,by omega,by omega⟩
 ·cases h
 ·cases h
theorem RZ{b:List UInt8}{p u q:Nat}(h:bit b p=.ok (u,q)):u<=1/\b.drop p=UInt8.ofNat u::b.drop q/\q=p+1/\q<=b.length:=by
 unfold bit at h;split at h
 ·rename_i hp
  split at h
  ·cases h
  ·rename_i h1
   injection h with h
   injection h with e1 e2
   subst e1 e2;refine⟨by omega,?_,rfl,hp⟩;rw[UInt8.ofNat_toNat,xQ hp,yG,yF hp,Option.getD_some]
 ·cases h
end Cd
section
open Go.BigFrame Go.RowKit
namespace Cd
open Id Chk Vl Ev
def E0:ByteArray:=⟨#[]⟩
def un(u:Nat):Int:=if u % 2=0 then((u / 2:Nat):Int)else -((u / 2:Nat):Int) - 1
structure S where
 at_:Nat
 v:List Vl.Node
 sz:Nat
def S.put(x:S)(p:Nat)(n:Vl.Node)(z:Nat):S:=⟨p,x.v++[n],x.sz+z⟩
def S.inc(x:S):S:=⟨x.at_,x.v,x.sz+1⟩
abbrev Rs(α:Type):=Except (Nat × Nat) α
def uI(b:List UInt8)(p n:Nat):ByteArray:=⟨((b.drop p).take n).toArray⟩
def BO(b:List UInt8)(x:S)(q:Nat × Nat):Rs S:=if 4096<x.sz+q.1 then .error (x.at_,3)else if b.length<q.2+q.1 then .error (b.length,160)else .ok (x.put (q.2+q.1) ⟨4,0,uI b q.2 q.1,0⟩ q.1)
def uH(b:List UInt8)(k:Nat)(x:S):Rs S :=
 if k=1 then .ok (x.put x.at_ ⟨1,0,E0,0⟩ 0)
 else if k=2 then(match bit b x.at_ with
  | .error e=>.error e
  | .ok q=>.ok (x.put q.2 ⟨2,q.1,E0,0⟩ 0))
 else if k=3 then(match num b x.at_ with
  | .error e=>.error e
  | .ok q=>.ok (x.put q.2 ⟨3,un q.1,E0,0⟩ 0))
 else(match num b x.at_ with
  | .error e=>.error e
  | .ok q=>BO b x q)
def BQ(r:Rec)(b:List UInt8)(x:S):Rs (List (List Srt) × S):=match num b x.at_ with
 | .error e=>.error e
 | .ok q=>if r.fields.length<=q.1 then .error (x.at_,162)else .ok ([(r.fields.map (·.type)).getD q.1 []],x.put q.2 ⟨8,q.1,E0,1⟩ 0)
def o7(s:Sch)(b:List UInt8)(c:Srt)(t:List Srt)(x:S):Rs (List (List Srt) × S) :=
 if c.kind=5 then(match num b x.at_ with
  | .error e=>.error e
  | .ok q=>if 4096<q.1 then .error (x.at_,3)else .ok (List.replicate q.1 t,x.put q.2 ⟨5,0,E0,q.1⟩ 0))
 else if c.kind=6 then(match bit b x.at_ with
  | .error e=>.error e
  | .ok q=>.ok (List.replicate q.1 t,x.put q.2 ⟨6,0,E0,q.1⟩ 0))
 else if((find s c.name).getD qL).choice=true then BQ ((find s c.name).getD qL) b x
 else .ok (((find s c.name).getD qL).fields.map (·.type),x.put x.at_ ⟨7,0,E0,((find s c.name).getD qL).fields.length⟩ 0)
def eP(f:List Srt->S->Rs S):List (List Srt)->S->Rs S
 |[],x=>.ok x
 |t::ts,x=>match f t x with
  | .error e=>.error e
  | .ok y=>eP f ts y
def goD(f:List Srt->S->Rs S)(o:Rs (List (List Srt) × S)):Rs S:=match o with
 | .error e=>.error e
 | .ok p=>eP f p.1 p.2
def iy(k:Nat):Prop:=k=1∨k=2∨k=3∨k=4
instance(k:Nat):Decidable (iy k):=by unfold iy;infer_instance
def full(x:S):Prop:=4096<=x.v.length∨4096<=x.sz
instance(x:S):Decidable (full x):=by unfold full;infer_instance
def aY(s:Sch)(b:List UInt8):Nat->List Srt->S->Rs S
 |0,_,x=>.error (x.at_,151)
 |_+1,[],x=>.error (x.at_,162)
 |k+1,c::t,x=>if full x then .error (x.at_,3)else if iy c.kind then uH b c.kind x.inc else goD (aY s b k) (o7 s b c t x.inc)
end Cd
namespace Vl
def Node.val(n:Node):Value:=.agg #[.int .u8 n.kind,.int .i64 n.int,.string n.text,.int .i64 n.kids]
end Vl
end
section
open Go.BigFrame Go.Maps Go.RowKit Go.WideMaps
namespace Vl
open Id Chk
end Vl
end
section
open Go.BigFrame Go.RowKit
namespace Vl
open Id Chk
theorem vO{a b c:World}{r:Option Nat}(h:a.grownBy b r)(k:b.grownBy c r):a.grownBy c r :=
 ⟨k.os.trans h.os,k.tape.trans h.tape,k.output.trans h.output,xM h.size k.size,λi hi hn=>(k.block i (Nat.lt_of_lt_of_le hi h.size) hn).trans (h.block i hi hn)⟩
end Vl
namespace Vl
open Id Chk
theorem _root_.Go.Proofs.YtogijkhenihaaaaGreatDoor.ah.tail{α:Type}{w:World}{t:TypeId}{size n c g off:Nat}{E:World->List Value->α->Prop}{x:α}{l:List α}(h:ah w none t size E (.slice (some ⟨g,off,none⟩) n c) (x::l)):ah w none t size E (.slice (some ⟨g,off+size,none⟩) (n - 1) (c - 1)) l:=by
 obtain⟨css,h1,h2,h3,h4⟩:=h;cases css with
 |nil=>simp at h1
 |cons c0 css =>
  obtain⟨hl,A,c',e,h5,h6,h7,h8⟩:=h3;injection e with e1 e2 e3
  subst e1 e2 e3;simp only[xJ]at h1 h5 h6 hl;have hc0:c0.length=size:=h2 c0 (by simp);refine⟨css,by omega,λcs hcs=>h2 cs (by simp[hcs]),⟨by rw[lM (λcs hcs=>h2 cs (by simp[hcs]))];congr 1;omega,_,_,by rw[xJ,Nat.add_sub_cancel],by omega,by omega,(λe=>by cases e),?_⟩,λi a b=>?_⟩
  ·intro h0
   obtain⟨g',off',e,hc⟩:=h8 (by simp only[List.flatten_cons,xI];omega);injection e with e
   injection e with e1 e2
   subst e1 e2;refine⟨_,_,rfl,λj u hu=>?_⟩;have:=hc (size+j) u (by rw[List.flatten_cons,List.getElem?_append_right (by omega),hc0,Nat.add_sub_cancel_left];exact hu);rw[<-Nat.add_assoc]at this;exact this
  ·exact h4 (i+1) (by simpa using a) (by simpa using b)
end Vl
namespace Vl
open Id Chk
noncomputable def oK(s:Sch)(t:List Srt):Nat:=if(check s).2≠0 then(check s).2 else if right s t=true then 0 else 131
theorem La{t:List Srt}(h:(Prn.sS t).toList.isEmpty=false):t.length≠0/\t.length<=12:=by
 rw[yL]at h;have h3:(decide (t.length<=12)&&Prn.okP t)=true:=by simpa using h
 rw[xX,decide_eq_true_eq]at h3;refine⟨λe=>?_,h3.1⟩;have h4:t=[]:=List.length_eq_zero_iff.1 e;subst h4;cases h3.2
theorem Lc{s:Sch}{t:List Srt}(h:oK s t=0):Right s/\right s t=true:=by
 unfold oK at h;split at h
 ·rename_i h1;exact absurd h h1
 ·rename_i h1
  split at h
  ·rename_i h2;exact⟨sF (by omega),h2⟩
  ·cases h
theorem AX{x:Sch}(h:Fine x):∀ r∈x.records,r.fields.length<=10000/\∀ f∈r.fields,f.type.length<=10000:=h.small
end Vl
end
