import Derived.Test.YtogijkhenihaaaaGreatDoorGB05
set_option linter.all false
set_option maxRecDepth 100000
set_option maxHeartbeats 0
namespace Go.Proofs.YtogijkhenihaaaaGreatDoor
open Lib (hid)
open Go.RowKit
theorem EN(s:ByteArray)(hs:s.size<=maxLen)(k:Nat)(hk:k<=s.size)(w:World) :
  Calls Tryz.prog 206 #[.string s,.int .i64 k] w λe w'=>e=.returned (.int .i64 (Tk.bM false s k))/\w=w':=by
 unfold maxLen at hs;go_enter Tryz.func206,Tryz.ntmps206;go_wp2;go_loop [1] (λi=>∃ j:Nat,j<=s.size/\i=.int .i64 j/\Hid (Tk.bM false s k=Tk.bM false s j)) (λi=>s.size - (intOf i).toNat)
 case atStart=>exact⟨k,hk,rfl,hid rfl⟩
 case round =>
  obtain⟨j,hj,rfl,HG⟩:=hrel;by_cases hlt:j<s.size
  ·have hx:s[j].toNat<256:=s[j].toNat_lt
   cases hb:Tk.lK s[j].toNat
   ·obtain⟨n1,n2,n3,n4⟩:=Tk.AL hb
    have t1:((s[j].toNat:Int)==32)=false:=by simp;omega
    have t2:((s[j].toNat:Int)==9)=false:=by simp;omega
    have t3:((s[j].toNat:Int)==10)=false:=by simp;omega
    have t4:((s[j].toNat:Int)==13)=false:=by simp;omega
    by_cases h47:s[j].toNat=47
    ·have t5:((s[j].toNat:Int)==47)=true:=by simp;omega
     by_cases h2:j+1<s.size
     ·by_cases h48:s[j+1].toNat=47
      ·have HS:=hid (Tk.wz hlt h2 h47 h48)
       have t6:((s[j+1].toNat:Int)==47)=true:=by simp;omega
       have h2i:(j:Int)+1<(s.size:Int):=by omega
       clear hb n1 n2 n3 n4 h47 h48;go_wp2;go_loop [1] (λi=>∃ m:Nat,j<=m/\m<=s.size/\i=.int .i64 m/\Hid (Tk.bM false s j=Tk.bM true s m)/\Hid (m=j->(s[j].toNat:Int)=47)) (λi=>s.size - (intOf i).toNat)
       case atStart=>exact⟨j,xB _,by omega,rfl,HS,hid (λ_=>by simpa using t5)⟩
       case round =>
        obtain⟨m,hjm,hm,rfl,HM,HN⟩:=hrel;by_cases hml:m<s.size
        ·by_cases h10:s[m].toNat=10
         ·have HE:=hid (Tk.G8 hml h10)
          have t7:((s[m].toNat:Int)==10)=true:=by simp;omega
          have hne:j≠m:=by
           rintro rfl;have:=HN.out rfl;omega
          clear h10;go_wp2;go_round
          case rel=>exact⟨m,by omega,rfl,hid (by rw[HG.out,HM.out,HE.out])⟩
          case measure=>simp[intOf];omega
         ·have HE:=hid (Tk.MS hml h10)
          have t7:((s[m].toNat:Int)==10)=false:=by simp;omega
          clear h10;go_wp2;go_round
          case rel=>exact⟨m+1,by omega,by omega,by go_num,hid (by rw[HM.out,HE.out]),hid (by omega)⟩
          case measure=>simp[intOf];omega
        ·obtain rfl:m=s.size:=by omega
         clear hml;go_wp2;go_round
         case rel=>exact⟨s.size,by omega,rfl,hid (by rw[HG.out,HM.out,Tk.kX _ (xB _),Tk.kX _ (xB _)])⟩
         case measure=>simp[intOf];omega
      ·have HS:=hid (Tk.nU hlt hb (by rintro⟨_,h',e⟩;exact h48 e))
       have t6:((s[j+1].toNat:Int)==47)=false:=by simp;omega
       have h2i:(j:Int)+1<(s.size:Int):=by omega
       clear hb n1 n2 n3 n4 h47 h48;go_wp2;go_ret;exact⟨by rw[HG.out,HS.out];rfl,rfl⟩
     ·have HS:=hid (Tk.nU hlt hb (by rintro⟨_,h',e⟩;exact h2 h'))
      clear hb n1 n2 n3 n4 h47;go_wp2;go_ret;exact⟨by rw[HG.out,HS.out];rfl,rfl⟩
    ·have HS:=hid (Tk.nU hlt hb (by rintro⟨e,_⟩;exact h47 e))
     have t5:((s[j].toNat:Int)==47)=false:=by simp;omega
     clear hb n1 n2 n3 n4 h47;go_wp2;go_ret;exact⟨by rw[HG.out,HS.out];rfl,rfl⟩
   ·have HS:=hid (Tk.rY hlt hb)
    rcases Tk.yY hb with h|h|h|h
    all_goals
     have ht:=hid h;clear hb;go_wp2;go_round
     case rel=>exact⟨j+1,by omega,by go_num,hid (by rw[HG.out,HS.out])⟩
     case measure=>simp[intOf];omega
  ·obtain rfl:j=s.size:=by omega
   clear hlt;go_wp2;go_ret;exact⟨by rw[HG.out,Tk.kX _ (xB _)];rfl,rfl⟩
theorem Jh(s:ByteArray)(hs:s.size<=65536)(k:Nat)(hk:k<s.size)(hL:Tk.fE s[k].toNat=false)(hD:Tk.isDigit s[k].toNat=false)(hS:Tk.nR s[k].toNat=false)(w:World) :
  Calls Tryz.prog 207 #[.string s,.int .i64 k] w λe w'=>e=.returned (.tuple #[(Tk.aW 3 s k).1.val,.int .i64 (Tk.aW 3 s k).2])/\Below w.heap.size w w':=by
 have hx:s[k].toNat<256:=s[k].toNat_lt;have HB:=hid (Tk.nI hk);have HL:=hid hL;have HD:=hid hD;have HS:=hid hS;obtain⟨n1,n2,n3,n4,n5,n6,n7,n8⟩:=Tk.Lm hS;have g0:((s[k].toNat:Int)==123)=false:=by simp;omega
 have g1:((s[k].toNat:Int)==125)=false:=by simp;omega
 have g2:((s[k].toNat:Int)==40)=false:=by simp;omega
 have g3:((s[k].toNat:Int)==41)=false:=by simp;omega
 have g4:((s[k].toNat:Int)==59)=false:=by simp;omega
 have g5:((s[k].toNat:Int)==58)=false:=by simp;omega
 have g6:((s[k].toNat:Int)==44)=false:=by simp;omega
 have g7:((s[k].toNat:Int)==46)=false:=by simp;omega
 clear n1 n2 n3 n4 n5 n6 n7 n8 hL hD hS;by_cases h45:s[k].toNat=45
 ·have t1:((s[k].toNat:Int)==45)=true:=by simp;omega
  by_cases h2:k+1<s.size
  ·have HB2:=hid (Tk.nI h2)
   have h2i:(k:Int)+1<(s.size:Int):=by omega
   by_cases h62:s[k+1].toNat=62
   ·have t2:((s[k+1].toNat:Int)==62)=true:=by simp;omega
    have HO:Hid (Tk.aW 3 s k=(⟨3,Tk.arrow,0,k⟩,0)):=by
     apply hid;unfold Tk.aW;rw[HB.out,HL.out,HD.out,HS.out,HB2.out];simp[h45,h2,h62]
    clear h45 h62;rw[HO.out];go_enter Tryz.func207,Tryz.ntmps207;go_wp2_with fail;refine(aZ _ hx _).mono ?_;rintro e w1⟨rfl,rfl⟩;rw[HL.out];go_wp2_with fail;refine(bJ _ hx _).mono ?_;rintro e w1⟨rfl,rfl⟩;rw[HD.out];go_wp2_with fail;(try simp only[Exit.inBlock,Exit.then])
    refine bodyPost_ret (v:=.tuple #[(⟨3,Tk.arrow,0,k⟩:Tk.Tok).val,.int .i64 0]) ?_ rfl ⟨rfl,?_⟩
    ·rw[results_cell_tmp rfl]
     go_simp;try rfl
    ·go_grown
   ·have t2:((s[k+1].toNat:Int)==62)=false:=by simp;omega
    have HO:Hid (Tk.aW 3 s k=(⟨3,Tk.empty,0,k⟩,110)):=by
     apply hid;unfold Tk.aW;rw[HB.out,HL.out,HD.out,HS.out,HB2.out];simp[h62]
    clear h45 h62;rw[HO.out];go_enter Tryz.func207,Tryz.ntmps207;go_wp2_with fail;refine(aZ _ hx _).mono ?_;rintro e w1⟨rfl,rfl⟩;rw[HL.out];go_wp2_with fail;refine(bJ _ hx _).mono ?_;rintro e w1⟨rfl,rfl⟩;rw[HD.out];go_wp2_with fail;(try simp only[Exit.inBlock,Exit.then])
    refine bodyPost_ret (v:=.tuple #[(⟨3,Tk.empty,0,k⟩:Tk.Tok).val,.int .i64 110]) ?_ rfl ⟨rfl,?_⟩
    ·rw[results_cell_tmp rfl]
     go_simp;try rfl
    ·go_grown
  ·have HO:Hid (Tk.aW 3 s k=(⟨3,Tk.empty,0,k⟩,110)):=by
    apply hid;unfold Tk.aW;rw[HB.out,HL.out,HD.out,HS.out];simp[h2]
   clear h45;rw[HO.out];go_enter Tryz.func207,Tryz.ntmps207;go_wp2_with fail;refine(aZ _ hx _).mono ?_;rintro e w1⟨rfl,rfl⟩;rw[HL.out];go_wp2_with fail;refine(bJ _ hx _).mono ?_;rintro e w1⟨rfl,rfl⟩;rw[HD.out];go_wp2_with fail;(try simp only[Exit.inBlock,Exit.then])
   refine bodyPost_ret (v:=.tuple #[(⟨3,Tk.empty,0,k⟩:Tk.Tok).val,.int .i64 110]) ?_ rfl ⟨rfl,?_⟩
   ·rw[results_cell_tmp rfl]
    go_simp;try rfl
   ·go_grown
 ·have t1:((s[k].toNat:Int)==45)=false:=by simp;omega
  have HO:Hid (Tk.aW 3 s k=(⟨3,Tk.empty,0,k⟩,110)):=by
   apply hid;unfold Tk.aW;rw[HB.out,HL.out,HD.out,HS.out];simp[h45]
  clear h45;rw[HO.out];go_enter Tryz.func207,Tryz.ntmps207;go_wp2_with fail;refine(aZ _ hx _).mono ?_;rintro e w1⟨rfl,rfl⟩;rw[HL.out];go_wp2_with fail;refine(bJ _ hx _).mono ?_;rintro e w1⟨rfl,rfl⟩;rw[HD.out];go_wp2_with fail;(try simp only[Exit.inBlock,Exit.then])
  refine bodyPost_ret (v:=.tuple #[(⟨3,Tk.empty,0,k⟩:Tk.Tok).val,.int .i64 110]) ?_ rfl ⟨rfl,?_⟩
  ·rw[results_cell_tmp rfl]
   go_simp;try rfl
  ·go_grown
theorem LM(s:ByteArray)(hs:s.size<=65536)(k:Nat)(hk:k<s.size)(hL:Tk.fE s[k].toNat=false)(hD:Tk.isDigit s[k].toNat=false)(hS:Tk.nR s[k].toNat=true)(w:World) :
  Calls Tryz.prog 207 #[.string s,.int .i64 k] w λe w'=>e=.returned (.tuple #[(Tk.aW 3 s k).1.val,.int .i64 (Tk.aW 3 s k).2])/\Below w.heap.size w w':=by
 have hx:s[k].toNat<256:=s[k].toNat_lt;have HB:=hid (Tk.nI hk);have HL:=hid hL;have HD:=hid hD;have HS:=hid hS;have HO:Hid (Tk.aW 3 s k=(⟨3,s.extract k (k+1),0,k⟩,0)):=by
  apply hid;unfold Tk.aW;rw[HB.out,HL.out,HD.out,HS.out];simp
 rw[HO.out];clear hL hD;rcases Tk.II hS with h|h|h|h|h|h|h|h
 ·have g0:((s[k].toNat:Int)==123)=true:=by simp;omega
  have g1:((s[k].toNat:Int)==125)=false:=by simp;omega
  have g2:((s[k].toNat:Int)==40)=false:=by simp;omega
  have g3:((s[k].toNat:Int)==41)=false:=by simp;omega
  have g4:((s[k].toNat:Int)==59)=false:=by simp;omega
  have g5:((s[k].toNat:Int)==58)=false:=by simp;omega
  have g6:((s[k].toNat:Int)==44)=false:=by simp;omega
  have g7:((s[k].toNat:Int)==46)=false:=by simp;omega
  clear h hS;go_enter Tryz.func207,Tryz.ntmps207;go_wp2_with fail;refine(aZ _ hx _).mono ?_;rintro e w1⟨rfl,rfl⟩;rw[HL.out];go_wp2_with fail;refine(bJ _ hx _).mono ?_;rintro e w1⟨rfl,rfl⟩;rw[HD.out];go_wp2_with fail;(try simp only[Exit.inBlock,Exit.then])
  refine bodyPost_ret (v:=.tuple #[(⟨3,s.extract k (k+1),0,k⟩:Tk.Tok).val,.int .i64 0]) ?_ rfl ⟨rfl,?_⟩
  ·rw[results_cell_tmp rfl]
   go_simp;try rfl
  ·go_grown
 ·have g0:((s[k].toNat:Int)==123)=false:=by simp;omega
  have g1:((s[k].toNat:Int)==125)=true:=by simp;omega
  have g2:((s[k].toNat:Int)==40)=false:=by simp;omega
  have g3:((s[k].toNat:Int)==41)=false:=by simp;omega
  have g4:((s[k].toNat:Int)==59)=false:=by simp;omega
  have g5:((s[k].toNat:Int)==58)=false:=by simp;omega
  have g6:((s[k].toNat:Int)==44)=false:=by simp;omega
  have g7:((s[k].toNat:Int)==46)=false:=by simp;omega
  clear h hS;go_enter Tryz.func207,Tryz.ntmps207;go_wp2_with fail;refine(aZ _ hx _).mono ?_;rintro e w1⟨rfl,rfl⟩;rw[HL.out];go_wp2_with fail;refine(bJ _ hx _).mono ?_;rintro e w1⟨rfl,rfl⟩;rw[HD.out];go_wp2_with fail;(try simp only[Exit.inBlock,Exit.then])
  refine bodyPost_ret (v:=.tuple #[(⟨3,s.extract k (k+1),0,k⟩:Tk.Tok).val,.int .i64 0]) ?_ rfl ⟨rfl,?_⟩
  ·rw[results_cell_tmp rfl]
   go_simp;try rfl
  ·go_grown
 ·have g0:((s[k].toNat:Int)==123)=false:=by simp;omega
  have g1:((s[k].toNat:Int)==125)=false:=by simp;omega
  have g2:((s[k].toNat:Int)==40)=true:=by simp;omega
  have g3:((s[k].toNat:Int)==41)=false:=by simp;omega
  have g4:((s[k].toNat:Int)==59)=false:=by simp;omega
  have g5:((s[k].toNat:Int)==58)=false:=by simp;omega
  have g6:((s[k].toNat:Int)==44)=false:=by simp;omega
  have g7:((s[k].toNat:Int)==46)=false:=by simp;omega
  clear h hS;go_enter Tryz.func207,Tryz.ntmps207;go_wp2_with fail;refine(aZ _ hx _).mono ?_;rintro e w1⟨rfl,rfl⟩;rw[HL.out];go_wp2_with fail;refine(bJ _ hx _).mono ?_;rintro e w1⟨rfl,rfl⟩;rw[HD.out];go_wp2_with fail;(try simp only[Exit.inBlock,Exit.then])
  refine bodyPost_ret (v:=.tuple #[(⟨3,s.extract k (k+1),0,k⟩:Tk.Tok).val,.int .i64 0]) ?_ rfl ⟨rfl,?_⟩
  ·rw[results_cell_tmp rfl]
   go_simp;try rfl
  ·go_grown
 ·have g0:((s[k].toNat:Int)==123)=false:=by simp;omega
  have g1:((s[k].toNat:Int)==125)=false:=by simp;omega
  have g2:((s[k].toNat:Int)==40)=false:=by simp;omega
  have g3:((s[k].toNat:Int)==41)=true:=by simp;omega
  have g4:((s[k].toNat:Int)==59)=false:=by simp;omega
  have g5:((s[k].toNat:Int)==58)=false:=by simp;omega
  have g6:((s[k].toNat:Int)==44)=false:=by simp;omega
  have g7:((s[k].toNat:Int)==46)=false:=by simp;omega
  clear h hS;go_enter Tryz.func207,Tryz.ntmps207;go_wp2_with fail;refine(aZ _ hx _).mono ?_;rintro e w1⟨rfl,rfl⟩;rw[HL.out];go_wp2_with fail;refine(bJ _ hx _).mono ?_;rintro e w1⟨rfl,rfl⟩;rw[HD.out];go_wp2_with fail;(try simp only[Exit.inBlock,Exit.then])
  refine bodyPost_ret (v:=.tuple #[(⟨3,s.extract k (k+1),0,k⟩:Tk.Tok).val,.int .i64 0]) ?_ rfl ⟨rfl,?_⟩
  ·rw[results_cell_tmp rfl]
   go_simp;try rfl
  ·go_grown
 ·have g0:((s[k].toNat:Int)==123)=false:=by simp;omega
  have g1:((s[k].toNat:Int)==125)=false:=by simp;omega
  have g2:((s[k].toNat:Int)==40)=false:=by simp;omega
  have g3:((s[k].toNat:Int)==41)=false:=by simp;omega
  have g4:((s[k].toNat:Int)==59)=true:=by simp;omega
  have g5:((s[k].toNat:Int)==58)=false:=by simp;omega
  have g6:((s[k].toNat:Int)==44)=false:=by simp;omega
  have g7:((s[k].toNat:Int)==46)=false:=by simp;omega
  clear h hS;go_enter Tryz.func207,Tryz.ntmps207;go_wp2_with fail;refine(aZ _ hx _).mono ?_;rintro e w1⟨rfl,rfl⟩;rw[HL.out];go_wp2_with fail;refine(bJ _ hx _).mono ?_;rintro e w1⟨rfl,rfl⟩;rw[HD.out];go_wp2_with fail;(try simp only[Exit.inBlock,Exit.then])
  refine bodyPost_ret (v:=.tuple #[(⟨3,s.extract k (k+1),0,k⟩:Tk.Tok).val,.int .i64 0]) ?_ rfl ⟨rfl,?_⟩
  ·rw[results_cell_tmp rfl]
   go_simp;try rfl
  ·go_grown
 ·have g0:((s[k].toNat:Int)==123)=false:=by simp;omega
  have g1:((s[k].toNat:Int)==125)=false:=by simp;omega
  have g2:((s[k].toNat:Int)==40)=false:=by simp;omega
  have g3:((s[k].toNat:Int)==41)=false:=by simp;omega
  have g4:((s[k].toNat:Int)==59)=false:=by simp;omega
  have g5:((s[k].toNat:Int)==58)=true:=by simp;omega
  have g6:((s[k].toNat:Int)==44)=false:=by simp;omega
  have g7:((s[k].toNat:Int)==46)=false:=by simp;omega
  clear h hS;go_enter Tryz.func207,Tryz.ntmps207;go_wp2_with fail;refine(aZ _ hx _).mono ?_;rintro e w1⟨rfl,rfl⟩;rw[HL.out];go_wp2_with fail;refine(bJ _ hx _).mono ?_;rintro e w1⟨rfl,rfl⟩;rw[HD.out];go_wp2_with fail;(try simp only[Exit.inBlock,Exit.then])
  refine bodyPost_ret (v:=.tuple #[(⟨3,s.extract k (k+1),0,k⟩:Tk.Tok).val,.int .i64 0]) ?_ rfl ⟨rfl,?_⟩
  ·rw[results_cell_tmp rfl]
   go_simp;try rfl
  ·go_grown
 ·have g0:((s[k].toNat:Int)==123)=false:=by simp;omega
  have g1:((s[k].toNat:Int)==125)=false:=by simp;omega
  have g2:((s[k].toNat:Int)==40)=false:=by simp;omega
  have g3:((s[k].toNat:Int)==41)=false:=by simp;omega
  have g4:((s[k].toNat:Int)==59)=false:=by simp;omega
  have g5:((s[k].toNat:Int)==58)=false:=by simp;omega
  have g6:((s[k].toNat:Int)==44)=true:=by simp;omega
  have g7:((s[k].toNat:Int)==46)=false:=by simp;omega
  clear h hS;go_enter Tryz.func207,Tryz.ntmps207;go_wp2_with fail;refine(aZ _ hx _).mono ?_;rintro e w1⟨rfl,rfl⟩;rw[HL.out];go_wp2_with fail;refine(bJ _ hx _).mono ?_;rintro e w1⟨rfl,rfl⟩;rw[HD.out];go_wp2_with fail;(try simp only[Exit.inBlock,Exit.then])
  refine bodyPost_ret (v:=.tuple #[(⟨3,s.extract k (k+1),0,k⟩:Tk.Tok).val,.int .i64 0]) ?_ rfl ⟨rfl,?_⟩
  ·rw[results_cell_tmp rfl]
   go_simp;try rfl
  ·go_grown
 ·have g0:((s[k].toNat:Int)==123)=false:=by simp;omega
  have g1:((s[k].toNat:Int)==125)=false:=by simp;omega
  have g2:((s[k].toNat:Int)==40)=false:=by simp;omega
  have g3:((s[k].toNat:Int)==41)=false:=by simp;omega
  have g4:((s[k].toNat:Int)==59)=false:=by simp;omega
  have g5:((s[k].toNat:Int)==58)=false:=by simp;omega
  have g6:((s[k].toNat:Int)==44)=false:=by simp;omega
  have g7:((s[k].toNat:Int)==46)=true:=by simp;omega
  clear h hS;go_enter Tryz.func207,Tryz.ntmps207;go_wp2_with fail;refine(aZ _ hx _).mono ?_;rintro e w1⟨rfl,rfl⟩;rw[HL.out];go_wp2_with fail;refine(bJ _ hx _).mono ?_;rintro e w1⟨rfl,rfl⟩;rw[HD.out];go_wp2_with fail;(try simp only[Exit.inBlock,Exit.then])
  refine bodyPost_ret (v:=.tuple #[(⟨3,s.extract k (k+1),0,k⟩:Tk.Tok).val,.int .i64 0]) ?_ rfl ⟨rfl,?_⟩
  ·rw[results_cell_tmp rfl]
   go_simp;try rfl
  ·go_grown
theorem LK(s:ByteArray)(hs:s.size<=65536)(k:Nat)(hk:k<s.size)(hL:Tk.fE s[k].toNat=true)(w:World) :
  Calls Tryz.prog 207 #[.string s,.int .i64 k] w λe w'=>e=.returned (.tuple #[(Tk.aW 3 s k).1.val,.int .i64 (Tk.aW 3 s k).2])/\Below w.heap.size w w':=by
 have hx:s[k].toNat<256:=s[k].toNat_lt;have HB:=hid (Tk.nI hk);have HL:=hid hL;have HO:Hid (Tk.aW 3 s k=(⟨1,s.extract k (Tk.bQ Tk.bC s (k+1)),0,k⟩,Tk.over 32 (Tk.bQ Tk.bC s (k+1) - k))):=by
  apply hid;unfold Tk.aW;rw[HB.out,HL.out];rfl
 rw[HO.out];clear hL HO;go_enter Tryz.func207,Tryz.ntmps207;go_wp2_with fail;refine(aZ _ hx _).mono ?_;rintro e w1⟨rfl,rfl⟩;rw[HL.out];go_wp2_with fail;go_loop [8] (λi=>∃ m:Nat,k+1<=m/\m<=s.size/\i=.int .i64 m/\Hid (Tk.bQ Tk.bC s (k+1)=Tk.bQ Tk.bC s m)) (λi=>s.size - (intOf i).toNat)
 case atStart=>exact⟨k+1,by omega,by omega,by go_num,hid rfl⟩
 case round =>
  obtain⟨m,hm1,hm,rfl,HM⟩:=hrel;by_cases hml:m<s.size
  ·have hx2:s[m].toNat<256:=s[m].toNat_lt
   cases h1:Tk.fE s[m].toNat
   ·have H1:=hid h1
    cases h2:Tk.isDigit s[m].toNat
    ·have H2:=hid h2
     by_cases h3:s[m].toNat=95
     ·have HE:=hid (Tk.jJ (p:=Tk.bC) hml (by unfold Tk.bC;rw[h1,h2,h3];rfl))
      have t1:((s[m].toNat:Int)==95)=true:=by simp;omega
      clear h1 h2 h3;go_wp2_with fail;refine(aZ _ hx2 _).mono ?_;rintro e w1⟨rfl,rfl⟩;rw[H1.out];go_wp2_with fail;refine(bJ _ hx2 _).mono ?_;rintro e w1⟨rfl,rfl⟩;rw[H2.out];go_wp2_with fail;go_round
      case rel=>exact⟨m+1,by omega,by omega,by go_num,hid (by rw[HM.out,HE.out])⟩
      case measure=>simp[intOf];omega
     ·have HE:=hid (Tk.qg (p:=Tk.bC) hml (by unfold Tk.bC;rw[h1,h2];simp[h3]))
      have t1:((s[m].toNat:Int)==95)=false:=by simp;omega
      have HM2:=hid (HM.out.trans HE.out);clear h1 h2 h3;have hki:(k:Int)<=(m:Int):=by omega
      by_cases h32:32<m - k
      ·have OT:(32:Int)<(m:Int) - (k:Int):=by omega
       go_wp2_with fail;refine(aZ _ hx2 _).mono ?_;rintro e w1⟨rfl,rfl⟩;rw[H1.out];go_wp2_with fail;refine(bJ _ hx2 _).mono ?_;rintro e w1⟨rfl,rfl⟩;rw[H2.out];go_wp2_with fail;(try simp only[Exit.inBlock,Exit.then])
       refine bodyPost_ret (v:=.tuple #[(⟨1,s.extract k m,0,k⟩:Tk.Tok).val,.int .i64 3]) ?_ rfl ⟨?_,?_⟩
       ·rw[results_cell_tmp rfl]
        go_simp;try rfl
       ·rw[HM2.out,show Tk.over 32 (m - k)=3 from if_pos h32]
        rfl
       ·go_grown
      ·have OT:¬(32:Int)<(m:Int) - (k:Int):=by omega
       go_wp2_with fail;refine(aZ _ hx2 _).mono ?_;rintro e w1⟨rfl,rfl⟩;rw[H1.out];go_wp2_with fail;refine(bJ _ hx2 _).mono ?_;rintro e w1⟨rfl,rfl⟩;rw[H2.out];go_wp2_with fail;(try simp only[Exit.inBlock,Exit.then])
       refine bodyPost_ret (v:=.tuple #[(⟨1,s.extract k m,0,k⟩:Tk.Tok).val,.int .i64 0]) ?_ rfl ⟨?_,?_⟩
       ·rw[results_cell_tmp rfl]
        go_simp;try rfl
       ·rw[HM2.out,show Tk.over 32 (m - k)=0 from if_neg h32]
        rfl
       ·go_grown
    ·have HE:=hid (Tk.jJ (p:=Tk.bC) hml (by unfold Tk.bC;rw[h1,h2];rfl))
     have H2:=hid h2;clear h1 h2;go_wp2_with fail;refine(aZ _ hx2 _).mono ?_;rintro e w1⟨rfl,rfl⟩;rw[H1.out];go_wp2_with fail;refine(bJ _ hx2 _).mono ?_;rintro e w1⟨rfl,rfl⟩;rw[H2.out];go_wp2_with fail;go_round
     case rel=>exact⟨m+1,by omega,by omega,by go_num,hid (by rw[HM.out,HE.out])⟩
     case measure=>simp[intOf];omega
   ·have HE:=hid (Tk.jJ (p:=Tk.bC) hml (by unfold Tk.bC;rw[h1];rfl))
    have H1:=hid h1;clear h1;go_wp2_with fail;refine(aZ _ hx2 _).mono ?_;rintro e w1⟨rfl,rfl⟩;rw[H1.out];go_wp2_with fail;go_round
    case rel=>exact⟨m+1,by omega,by omega,by go_num,hid (by rw[HM.out,HE.out])⟩
    case measure=>simp[intOf];omega
  ·obtain rfl:m=s.size:=by omega
   have HE:=hid (Tk.oL (p:=Tk.bC) (s:=s) (xB _));have HM2:=hid (HM.out.trans HE.out);clear hml;have hki:(k:Int)<=(s.size:Int):=by omega
   by_cases h32:32<s.size - k
   ·have OT:(32:Int)<(s.size:Int) - (k:Int):=by omega
    go_wp2_with fail;(try simp only[Exit.inBlock,Exit.then])
    refine bodyPost_ret (v:=.tuple #[(⟨1,s.extract k s.size,0,k⟩:Tk.Tok).val,.int .i64 3]) ?_ rfl ⟨?_,?_⟩
    ·rw[results_cell_tmp rfl]
     go_simp;try rfl
    ·rw[HM2.out,show Tk.over 32 (s.size - k)=3 from if_pos h32]
     rfl
    ·go_grown
   ·have OT:¬(32:Int)<(s.size:Int) - (k:Int):=by omega
    go_wp2_with fail;(try simp only[Exit.inBlock,Exit.then])
    refine bodyPost_ret (v:=.tuple #[(⟨1,s.extract k s.size,0,k⟩:Tk.Tok).val,.int .i64 0]) ?_ rfl ⟨?_,?_⟩
    ·rw[results_cell_tmp rfl]
     go_simp;try rfl
    ·rw[HM2.out,show Tk.over 32 (s.size - k)=0 from if_neg h32]
     rfl
    ·go_grown
theorem DJ(w:World)(n:Nat)(a:Addr)(v:Value):(w.drewN n).setCell a v=(w.setCell a v).drewN n:=rfl
theorem qp(w:World)(A:Obj)(c0 c1 c3:Value)(x y:Int)(T:TypeId)(n:Nat)(g:Nat)(hg:g=w.heap.size+1) :
  (((w.alloc A).alloc (.cells #[c0,c1,.int .i64 x,c3] T)).drewN n).setCell ⟨g,2,none⟩ (.int .i64 y)=((w.alloc A).alloc (.cells #[c0,c1,.int .i64 y,c3] T)).drewN n:=by
 rw[DJ,World.setCell_alloc_at _ _ _ _ _ (by rw[hg];simp)];rfl
theorem sU(w:World)(A B:Obj)(n:Nat)(v0 v1 v2 v3:Value) :
  Below w.heap.size w ((((((((w.alloc A).alloc B).drewN n).setCell ⟨w.heap.size,0,none⟩ v0).setCell ⟨w.heap.size,1,none⟩ v1).setCell ⟨w.heap.size,2,none⟩ v2).setCell ⟨w.heap.size,3,none⟩ v3)):=by
 have h0:Below w.heap.size w ((w.alloc A).alloc B):=((Below.refl _ _).alloc (xB _) _).alloc (by simp) _;have h1:=below_drewN h0 n;have h2:=h1.setCell (p:=⟨w.heap.size,0,none⟩) (xB _) v0;have h3:=h2.setCell (p:=⟨w.heap.size,1,none⟩) (xB _) v1;have h4:=h3.setCell (p:=⟨w.heap.size,2,none⟩) (xB _) v2;exact h4.setCell (p:=⟨w.heap.size,3,none⟩) (xB _) v3
theorem Ji(s:ByteArray)(hs:s.size<=65536)(k:Nat)(hk:k<s.size)(hL:Tk.fE s[k].toNat=false)(hD:Tk.isDigit s[k].toNat=true)(E:Nat)(hE:Tk.bQ Tk.isDigit s (k+1)=E)(w:World) :
  Calls Tryz.prog 207 #[.string s,.int .i64 k] w λe w'=>e=.returned (.tuple #[(Tk.aW 3 s k).1.val,.int .i64 (Tk.aW 3 s k).2])/\Below w.heap.size w w':=by
 have hx:s[k].toNat<256:=s[k].toNat_lt;have HB:=hid (Tk.nI hk);have HL:=hid hL;have HD:=hid hD;have hkE:k+1<=E:=hE ▸ Tk.tJ Tk.isDigit s (k+1);have hEs:E<=s.size:=hE ▸ Tk.oC (p:=Tk.isDigit) (k:=k+1) (s:=s) (by omega);have HE:=hid hE;have HG:Hid (∀ m,k<=m->m<E->∀ h:m<s.size,Tk.isDigit s[m].toNat=true):=by
  apply hid;intro m h1 h2 h3;by_cases hmk:m=k
  ·subst hmk;exact hD
  ·exact Tk.IX (k:=k+1) (by omega) (by rw[hE];exact h2) h3
 have HO:Hid (Tk.aW 3 s k=if 9<E - k then(⟨2,s.extract k E,0,k⟩,3)
  else if s[k].toNat=48/\1<E - k then(⟨2,s.extract k E,0,k⟩,110)
  else(⟨2,s.extract k E,Tk.num s k E,k⟩,0)):=by
  apply hid;unfold Tk.aW;rw[HB.out,HL.out,HD.out];simp only[hE];rfl
 clear hL hD hE;go_enter Tryz.func207,Tryz.ntmps207;go_wp2_with fail;refine(aZ _ hx _).mono ?_;rintro e w1⟨rfl,rfl⟩;rw[HL.out];go_wp2_with fail;refine(bJ _ hx _).mono ?_;rintro e w1⟨rfl,rfl⟩;rw[HD.out];go_wp2_with fail;go_loop [8] (λi=>∃ m:Nat,k+1<=m/\m<=s.size/\i=.int .i64 m/\Hid (Tk.bQ Tk.isDigit s (k+1)=Tk.bQ Tk.isDigit s m)) (λi=>s.size - (intOf i).toNat)
 case atStart=>exact⟨k+1,by omega,by omega,by go_num,hid rfl⟩
 case round =>
  obtain⟨m,hm1,hm,rfl,HM⟩:=hrel;by_cases hml:m<s.size
  ·have hx2:s[m].toNat<256:=s[m].toNat_lt
   cases h1:Tk.isDigit s[m].toNat
   ·have HX:=hid (Tk.qg (p:=Tk.isDigit) hml h1)
    have H1:=hid h1;obtain rfl:E=m:=by rw[<-HE.out,HM.out,HX.out]
    clear h1;have hki:(k:Int)<=(E:Int):=by omega
    by_cases h9:9<E - k
    ·have h9i:(9:Int)<(E:Int) - (k:Int):=by omega
     go_wp2_with fail;refine(bJ _ hx2 _).mono ?_;rintro e w1⟨rfl,rfl⟩;rw[H1.out];go_wp2_with fail;(try simp only[Exit.inBlock,Exit.then])
     refine bodyPost_ret (v:=.tuple #[(⟨2,s.extract k E,0,k⟩:Tk.Tok).val,.int .i64 3]) ?_ rfl ⟨?_,?_⟩
     ·rw[results_cell_tmp rfl]
      go_simp;try rfl
     ·rw[HO.out,if_pos h9]
      rfl
     ·go_grown
    ·have h9i:¬(9:Int)<(E:Int) - (k:Int):=by omega
     by_cases h48:s[k].toNat=48
     ·have t48:((s[k].toNat:Int)==48)=true:=by simp;omega
      by_cases h1k:1<E - k
      ·have h1i:(1:Int)<(E:Int) - (k:Int):=by omega
       have HO2:=hid (HO.out.trans ((if_neg h9).trans (if_pos ⟨h48,h1k⟩)));clear h48;go_wp2_with fail;refine(bJ _ hx2 _).mono ?_;rintro e w1⟨rfl,rfl⟩;rw[H1.out];go_wp2_with fail;(try simp only[Exit.inBlock,Exit.then])
       refine bodyPost_ret (v:=.tuple #[(⟨2,s.extract k E,0,k⟩:Tk.Tok).val,.int .i64 110]) ?_ rfl ⟨?_,?_⟩
       ·rw[results_cell_tmp rfl]
        go_simp;try rfl
       ·rw[HO2.out]
        rfl
       ·go_grown
      ·have h1i:¬(1:Int)<(E:Int) - (k:Int):=by omega
       have HO2:=hid (HO.out.trans ((if_neg h9).trans (if_neg (λh=>h1k h.2))));clear h48;go_wp2_with fail;refine(bJ _ hx2 _).mono ?_;rintro e w1⟨rfl,rfl⟩;rw[H1.out];go_wp2_with fail;go_loopw [9] (λi wr=>∃ j n:Nat,k<=j/\j<=E/\i=.int .i64 j/\Hid (Tk.num s k j<10 ^ (j - k))/\wr=((w.alloc (.cells #[.int .u8 0,.string ⟨#[]⟩,.int .i64 0,.int .i64 0] 171)).alloc (.cells #[.int .u8 2,.string (s.extract k E),.int .i64 (Tk.num s k j),.int .i64 k] 171)).drewN n) (λi _=>s.size - (intOf i).toNat)
       case atStart=>exact⟨k,0,by omega,by omega,by go_num,hid (by rw[Tk.kN];simp),by rw[Tk.kN];rfl⟩
       case round =>
        obtain⟨j,n,hj1,hj2,rfl,HN,rfl⟩:=hrel;by_cases hjl:j<E
        ·have hjs:j<s.size:=by omega
         have hdig:=HG.out j hj1 hjl hjs;have HS:=hid (Tk.rU hj1 hjs);have HN2:=hid (Tk.qo hj1 hjs hdig HN.out);have hn8:=Tk.tZ HN.out (by omega);have hd1:48<=s[j].toNat/\s[j].toNat<=57:=by unfold Tk.isDigit at hdig;simp at hdig;omega
         obtain⟨hd1,hd2⟩:=hd1;have HV:Hid ((10:Int) * (Tk.num s k j:Int)+((s[j].toNat:Int) - 48)=((Tk.num s k (j+1):Nat):Int)):=hid (by rw[HS.out];omega);clear hdig;go_wp2_with fail;go_region;go_wp2_with fail;go_roundw
         case rel=>exact⟨j+1,n+1,by omega,by omega,by go_num,HN2,by rw[HV.out];exact qp _ _ _ _ _ _ _ _ _ _ rfl⟩
         case measure=>simp[intOf];omega
        ·obtain rfl:j=E:=by omega
         clear hjl;go_wp2_with fail;(try simp only[Exit.inBlock,Exit.then])
         refine bodyPost_ret (v:=.tuple #[(⟨2,s.extract k j,Tk.num s k j,k⟩:Tk.Tok).val,.int .i64 0]) ?_ rfl ⟨?_,?_⟩
         ·rw[results_cell_tmp rfl]
          go_simp;try rfl
         ·rw[HO2.out]
          rfl
         ·exact sU _ _ _ _ _ _ _ _
     ·have t48:((s[k].toNat:Int)==48)=false:=by simp;omega
      have HO2:=hid (HO.out.trans ((if_neg h9).trans (if_neg (λh=>h48 h.1))));clear h48;go_wp2_with fail;refine(bJ _ hx2 _).mono ?_;rintro e w1⟨rfl,rfl⟩;rw[H1.out];go_wp2_with fail;go_loopw [9] (λi wr=>∃ j n:Nat,k<=j/\j<=E/\i=.int .i64 j/\Hid (Tk.num s k j<10 ^ (j - k))/\wr=((w.alloc (.cells #[.int .u8 0,.string ⟨#[]⟩,.int .i64 0,.int .i64 0] 171)).alloc (.cells #[.int .u8 2,.string (s.extract k E),.int .i64 (Tk.num s k j),.int .i64 k] 171)).drewN n) (λi _=>s.size - (intOf i).toNat)
      case atStart=>exact⟨k,0,by omega,by omega,by go_num,hid (by rw[Tk.kN];simp),by rw[Tk.kN];rfl⟩
      case round =>
       obtain⟨j,n,hj1,hj2,rfl,HN,rfl⟩:=hrel;by_cases hjl:j<E
       ·have hjs:j<s.size:=by omega
        have hdig:=HG.out j hj1 hjl hjs;have HS:=hid (Tk.rU hj1 hjs);have HN2:=hid (Tk.qo hj1 hjs hdig HN.out);have hn8:=Tk.tZ HN.out (by omega);have hd1:48<=s[j].toNat/\s[j].toNat<=57:=by unfold Tk.isDigit at hdig;simp at hdig;omega
        obtain⟨hd1,hd2⟩:=hd1;have HV:Hid ((10:Int) * (Tk.num s k j:Int)+((s[j].toNat:Int) - 48)=((Tk.num s k (j+1):Nat):Int)):=hid (by rw[HS.out];omega);clear hdig;go_wp2_with fail;go_region;go_wp2_with fail;go_roundw
        case rel=>exact⟨j+1,n+1,by omega,by omega,by go_num,HN2,by rw[HV.out];exact qp _ _ _ _ _ _ _ _ _ _ rfl⟩
        case measure=>simp[intOf];omega
       ·obtain rfl:j=E:=by omega
        clear hjl;go_wp2_with fail;(try simp only[Exit.inBlock,Exit.then])
        refine bodyPost_ret (v:=.tuple #[(⟨2,s.extract k j,Tk.num s k j,k⟩:Tk.Tok).val,.int .i64 0]) ?_ rfl ⟨?_,?_⟩
        ·rw[results_cell_tmp rfl]
         go_simp;try rfl
        ·rw[HO2.out]
         rfl
        ·exact sU _ _ _ _ _ _ _ _
   ·have HX:=hid (Tk.jJ (p:=Tk.isDigit) hml h1)
    have H1:=hid h1;clear h1;go_wp2_with fail;refine(bJ _ hx2 _).mono ?_;rintro e w1⟨rfl,rfl⟩;rw[H1.out];go_wp2_with fail;go_round
    case rel=>exact⟨m+1,by omega,by omega,by go_num,hid (by rw[HM.out,HX.out])⟩
    case measure=>simp[intOf];omega
  ·obtain rfl:m=s.size:=by omega
   have HX:=hid (Tk.oL (p:=Tk.isDigit) (s:=s) (xB _));obtain rfl:E=s.size:=by rw[<-HE.out,HM.out,HX.out]
   clear hml;have hki:(k:Int)<=(s.size:Int):=by omega
   by_cases h9:9<s.size - k
   ·have h9i:(9:Int)<(s.size:Int) - (k:Int):=by omega
    go_wp2_with fail;skip
    (try simp only[Exit.inBlock,Exit.then])
    refine bodyPost_ret (v:=.tuple #[(⟨2,s.extract k s.size,0,k⟩:Tk.Tok).val,.int .i64 3]) ?_ rfl ⟨?_,?_⟩
    ·rw[results_cell_tmp rfl]
     go_simp;try rfl
    ·rw[HO.out,if_pos h9]
     rfl
    ·go_grown
   ·have h9i:¬(9:Int)<(s.size:Int) - (k:Int):=by omega
    by_cases h48:s[k].toNat=48
    ·have t48:((s[k].toNat:Int)==48)=true:=by simp;omega
     by_cases h1k:1<s.size - k
     ·have h1i:(1:Int)<(s.size:Int) - (k:Int):=by omega
      have HO2:=hid (HO.out.trans ((if_neg h9).trans (if_pos ⟨h48,h1k⟩)));clear h48;go_wp2_with fail;skip
      (try simp only[Exit.inBlock,Exit.then])
      refine bodyPost_ret (v:=.tuple #[(⟨2,s.extract k s.size,0,k⟩:Tk.Tok).val,.int .i64 110]) ?_ rfl ⟨?_,?_⟩
      ·rw[results_cell_tmp rfl]
       go_simp;try rfl
      ·rw[HO2.out]
       rfl
      ·go_grown
     ·have h1i:¬(1:Int)<(s.size:Int) - (k:Int):=by omega
      have HO2:=hid (HO.out.trans ((if_neg h9).trans (if_neg (λh=>h1k h.2))));clear h48;go_wp2_with fail;skip
      go_loopw [9] (λi wr=>∃ j n:Nat,k<=j/\j<=s.size/\i=.int .i64 j/\Hid (Tk.num s k j<10 ^ (j - k))/\wr=((w.alloc (.cells #[.int .u8 0,.string ⟨#[]⟩,.int .i64 0,.int .i64 0] 171)).alloc (.cells #[.int .u8 2,.string (s.extract k s.size),.int .i64 (Tk.num s k j),.int .i64 k] 171)).drewN n) (λi _=>s.size - (intOf i).toNat)
      case atStart=>exact⟨k,0,by omega,by omega,by go_num,hid (by rw[Tk.kN];simp),by rw[Tk.kN];rfl⟩
      case round =>
       obtain⟨j,n,hj1,hj2,rfl,HN,rfl⟩:=hrel;by_cases hjl:j<s.size
       ·have hjs:j<s.size:=by omega
        have hdig:=HG.out j hj1 hjl hjs;have HS:=hid (Tk.rU hj1 hjs);have HN2:=hid (Tk.qo hj1 hjs hdig HN.out);have hn8:=Tk.tZ HN.out (by omega);have hd1:48<=s[j].toNat/\s[j].toNat<=57:=by unfold Tk.isDigit at hdig;simp at hdig;omega
        obtain⟨hd1,hd2⟩:=hd1;have HV:Hid ((10:Int) * (Tk.num s k j:Int)+((s[j].toNat:Int) - 48)=((Tk.num s k (j+1):Nat):Int)):=hid (by rw[HS.out];omega);clear hdig;go_wp2_with fail;go_region;go_wp2_with fail;go_roundw
        case rel=>exact⟨j+1,n+1,by omega,by omega,by go_num,HN2,by rw[HV.out];exact qp _ _ _ _ _ _ _ _ _ _ rfl⟩
        case measure=>simp[intOf];omega
       ·obtain rfl:j=s.size:=by omega
        clear hjl;go_wp2_with fail;(try simp only[Exit.inBlock,Exit.then])
        refine bodyPost_ret (v:=.tuple #[(⟨2,s.extract k s.size,Tk.num s k s.size,k⟩:Tk.Tok).val,.int .i64 0]) ?_ rfl ⟨?_,?_⟩
        ·rw[results_cell_tmp rfl]
         go_simp;try rfl
        ·rw[HO2.out]
         rfl
        ·exact sU _ _ _ _ _ _ _ _
    ·have t48:((s[k].toNat:Int)==48)=false:=by simp;omega
     have HO2:=hid (HO.out.trans ((if_neg h9).trans (if_neg (λh=>h48 h.1))));clear h48;go_wp2_with fail;skip
     go_loopw [9] (λi wr=>∃ j n:Nat,k<=j/\j<=s.size/\i=.int .i64 j/\Hid (Tk.num s k j<10 ^ (j - k))/\wr=((w.alloc (.cells #[.int .u8 0,.string ⟨#[]⟩,.int .i64 0,.int .i64 0] 171)).alloc (.cells #[.int .u8 2,.string (s.extract k s.size),.int .i64 (Tk.num s k j),.int .i64 k] 171)).drewN n) (λi _=>s.size - (intOf i).toNat)
     case atStart=>exact⟨k,0,by omega,by omega,by go_num,hid (by rw[Tk.kN];simp),by rw[Tk.kN];rfl⟩
     case round =>
      obtain⟨j,n,hj1,hj2,rfl,HN,rfl⟩:=hrel;by_cases hjl:j<s.size
      ·have hjs:j<s.size:=by omega
       have hdig:=HG.out j hj1 hjl hjs;have HS:=hid (Tk.rU hj1 hjs);have HN2:=hid (Tk.qo hj1 hjs hdig HN.out);have hn8:=Tk.tZ HN.out (by omega);have hd1:48<=s[j].toNat/\s[j].toNat<=57:=by unfold Tk.isDigit at hdig;simp at hdig;omega
       obtain⟨hd1,hd2⟩:=hd1;have HV:Hid ((10:Int) * (Tk.num s k j:Int)+((s[j].toNat:Int) - 48)=((Tk.num s k (j+1):Nat):Int)):=hid (by rw[HS.out];omega);clear hdig;go_wp2_with fail;go_region;go_wp2_with fail;go_roundw
       case rel=>exact⟨j+1,n+1,by omega,by omega,by go_num,HN2,by rw[HV.out];exact qp _ _ _ _ _ _ _ _ _ _ rfl⟩
       case measure=>simp[intOf];omega
      ·obtain rfl:j=s.size:=by omega
       clear hjl;go_wp2_with fail;(try simp only[Exit.inBlock,Exit.then])
       refine bodyPost_ret (v:=.tuple #[(⟨2,s.extract k s.size,Tk.num s k s.size,k⟩:Tk.Tok).val,.int .i64 0]) ?_ rfl ⟨?_,?_⟩
       ·rw[results_cell_tmp rfl]
        go_simp;try rfl
       ·rw[HO2.out]
        rfl
       ·exact sU _ _ _ _ _ _ _ _
theorem EL(s:ByteArray)(hs:s.size<=65536)(k:Nat)(hk:k<s.size)(w:World) :
  Calls Tryz.prog 207 #[.string s,.int .i64 k] w λe w'=>e=.returned (.tuple #[(Tk.aW 3 s k).1.val,.int .i64 (Tk.aW 3 s k).2])/\Below w.heap.size w w':=by
 cases hL:Tk.fE s[k].toNat
 ·cases hD:Tk.isDigit s[k].toNat
  ·cases hS:Tk.nR s[k].toNat
   ·exact Jh s hs k hk hL hD hS w
   ·exact LM s hs k hk hL hD hS w
  ·exact Ji s hs k hk hL hD _ rfl w
 ·exact LK s hs k hk hL w
theorem Oh(s:ByteArray)(hs:s.size<=maxLen)(w:World) :
  Calls Tryz.prog 184 #[.string s] w λe w'=>∃ v,e=.returned (.tuple #[v,.int .i64 (Tk.all s).2.1,.int .i64 (Tk.all s).2.2])/\Below w.heap.size w w'/\w'.ownsRow w.heap.size 171 4 v (Tk.all s).1.length (Tk.flat (Tk.all s).1):=by
 have hs2:=hs;unfold maxLen at hs;go_enter Tryz.func184,Tryz.ntmps184;by_cases hbig:65536<s.size
 ·have HO:Hid (Tk.all s=([],0,3)):=hid (by unfold Tk.all;rw[if_pos hbig])
  go_wp2_with fail;go_ret3;exact⟨_,by rw[HO.out];rfl,Below.refl _ _,by rw[HO.out];exact⟨rfl,.inl ⟨rfl,rfl⟩⟩⟩
 ·have HO:Hid (Tk.all s=Tk.scan 3 s (s.size+1) (Tk.bM false s 0) []):=hid (by unfold Tk.all;rw[if_neg hbig])
  go_wp2_with fail;refine(EN s hs2 0 (by omega) _).mono ?_;rintro e w1⟨rfl,rfl⟩;go_wp2_with fail;go_loopw [5,6] (λl i wr=>∃(f k:Nat)(acc:List Tk.Tok)(lv:Value),k<=s.size/\s.size<f+k/\acc.length<=k/\lv=l/\i=.int .i64 k/\Hid (Tk.all s=Tk.scan 3 s f k acc)/\Hid (wr.ownsRow w.heap.size 171 4 lv acc.length (Tk.flat acc))/\Below w.heap.size w wr) (λ_ i _=>s.size - (intOf i).toNat)
  case atStart=>exact⟨s.size+1,Tk.bM false s 0,[],.slice none 0 0,Tk.uh _ (by omega),by omega,by simp,rfl,rfl,HO,hid ⟨rfl,.inl ⟨rfl,rfl⟩⟩,Below.refl _ _⟩
  case round =>
   obtain⟨f,k,acc,lv,hk,hf,ha,rfl,rfl,HA,HR,hb⟩:=hrel;by_cases hlt:k<s.size
   ·obtain⟨f,rfl⟩:∃ f',f=f'+1:=⟨f - 1,by omega⟩
    have hHA:=HA.out;unfold Tk.scan at hHA;rw[if_pos hlt]at hHA;generalize hone:Tk.aW 3 s k=o at hHA;obtain⟨⟨tk,tt,tn,ta⟩,er⟩:=o;have SA:=hid hone;by_cases her:er=0
    ·subst her
     have hok:=Tk.zA (d:=3) hlt (by rw[hone]);rw[hone]at hok;obtain⟨hok1,hok2⟩:=hok;simp only at hok1 hok2;rw[if_neg (by simp)]at hHA;have HE:=hid hHA;clear hHA hone;go_wp2_with fail;refine(EL s (by omega) k hlt _).mono ?_;rintro e w1⟨rfl,hb1⟩;rw[SA.out];simp only[Tk.Tok.val];have hz1:=hb1.size;have hz0:=hb.size;have HRD:Hid (((w1.alloc (.cells #[.int .u8 tk,.string tt,.int .i64 tn,.int .i64 ta] 171)).ownsRow w.heap.size 171 4 lv acc.length (Tk.flat acc))/\(some w1.heap.size≠lv.ownBlock)):=by
      refine hid ⟨(Tk.LJ HR.out hb1).alloc _,λe=>?_⟩;have:=HR.out.lt _ e.symm;omega
     go_wp2_with(at_builtin;go_must(refine wC rfl _ _ _ rfl w.heap.size 171 _ _ Tryz.underlying165 OD rfl _ acc.length _ rfl HRD.out.1 _ _ _ _ _ rfl (by simp) (by simp[Value.oneCell']) (by simp only[maxLen];omega) (by omega) (by simp;omega) ?_);intro v' w2 hown2 hb2 hg2;have HOW:=hid hown2;have hcell:=hg2.cell (a:=⟨w1.heap.size,1,none⟩) (v:=.string tt) (by go_simp) HRD.out.2;clear hown2 hg2);rw[show(k:Int)+(tt.size:Int)=((k+tt.size:Nat):Int)from by simp];refine(EN s hs2 (k+tt.size) hok2 _).mono ?_;rintro e w3⟨rfl,rfl⟩;have hge:=Tk.Dn false s (k+tt.size);have hle:=Tk.uh (s:=s) (k:=k+tt.size) false hok2;clear hcell;go_wp2_with fail;go_roundw
     case rel=>exact⟨f,_,acc++[⟨tk,tt,tn,ta⟩],v',hle,by omega,by rw[xI];simp;omega,rfl,rfl,HE,hid (by rw[xI,Tk.MX];exact HOW.out),(hb.trans (hb1.mono hz0)).trans (((Below.refl _ _).alloc (by omega) _).trans hb2)⟩
     case measure=>simp[intOf];omega
    ·rw[if_pos her]at hHA
     have HE:=hid hHA;have ter:((er:Int)==0)=false:=by simp;omega
     clear hHA hone her;go_wp2_with fail;refine(EL s (by omega) k hlt _).mono ?_;rintro e w1⟨rfl,hb1⟩;rw[SA.out];simp only[Tk.Tok.val];go_wp2_with fail;go_ret3;exact⟨_,by rw[HE.out];rfl,(hb.trans (hb1.mono hb.size)).alloc (by have:=hb.size;have:=hb1.size;omega) _,by rw[HE.out];exact⟨rfl,.inl ⟨rfl,rfl⟩⟩⟩
   ·obtain rfl:k=s.size:=by omega
    have HE:Hid (Tk.all s=(acc,0,0)):=hid (by
     rw[HA.out];cases f with
     |zero=>rfl
     |succ f=>unfold Tk.scan;rw[if_neg hlt])
    clear hlt;go_wp2_with fail;go_ret3;exact⟨_,by rw[HE.out];rfl,hb,by rw[HE.out];exact HR.out⟩
