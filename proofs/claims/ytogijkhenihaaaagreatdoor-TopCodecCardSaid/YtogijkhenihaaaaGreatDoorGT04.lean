import Derived.Test.YtogijkhenihaaaaGreatDoorGT02
set_option linter.all false
set_option maxRecDepth 100000
set_option maxHeartbeats 0
namespace Go.Proofs.YtogijkhenihaaaaGreatDoor
open Lib (hid)
open Go.RowKit
theorem aG{w w':World}{r:Option Nat}(h:w.grownBy w' r){g:Nat}(hg:w.heap.size<=g)(j:Nat)(v:Value):w.grownBy (w'.setCell ⟨g,j,none⟩ v) r :=
 ⟨h.os,h.tape,h.output,by simpa using h.size,λk hk hne=>(Below.heap_setCell _ _ _ _ (by intro e;have:g=k:=e.symm;omega)).trans (h.block k hk hne)⟩
theorem fD{fn:Func}{p u v:Tmp}{ty:TypeId}(h:fn.results=#[.cell p ty,.tmp u,.tmp v])(tmps:Array Value)(P:Program)(w:World) :
  (results fn tmps).run P w =
   ((asAddr (tmps.getD p undef)).run P w).andThen λa w₁=>((loadVar ty a).run P w₁).andThen λx w₂=>.ok (.tuple #[x,tmps.getD u undef,tmps.getD v undef]) w₂:=by
 simp only[results,h];simp[Sem.run_bind,Result.andThen]
namespace Tk
def Blk(w:World)(g:Nat)(c0 c1 c2 c3:Value):Prop:=w.heap[g]?=some (.cells #[c0,c1,c2,c3] 171 (0,0))
theorem Blk.facts{w:World}{g:Nat}{c0 c1 c2 c3:Value}(h:Blk w g c0 c1 c2 c3) :
  (w.cell? ⟨g,0,none⟩=some c0/\w.cell? ⟨g,1,none⟩=some c1/\w.cell? ⟨g,2,none⟩=some c2/\w.cell? ⟨g,3,none⟩=some c3)/\(w.frozen? ⟨g,0,none⟩=false/\w.frozen? ⟨g,1,none⟩=false/\w.frozen? ⟨g,2,none⟩=false/\w.frozen? ⟨g,3,none⟩=false) :=
 ⟨⟨cell_of_row w g 0 _ _ _ h,cell_of_row w g 1 _ _ _ h,cell_of_row w g 2 _ _ _ h,cell_of_row w g 3 _ _ _ h⟩,frozen_of_row w g 0 _ _ h,frozen_of_row w g 1 _ _ h,frozen_of_row w g 2 _ _ h,frozen_of_row w g 3 _ _ h⟩
theorem Blk.lt{w:World}{g:Nat}{c0 c1 c2 c3:Value}(h:Blk w g c0 c1 c2 c3):g<w.heap.size:=lt_of_block h
theorem Blk.grown{w w':World}{g:Nat}{c0 c1 c2 c3:Value}(h:Blk w g c0 c1 c2 c3){r:Option Nat}(hg:w.grownBy w' r)(hne:some g≠r):Blk w' g c0 c1 c2 c3:=by
 unfold Blk;rw[hg.block g h.lt hne];exact h
theorem Blk.new(w:World)(c0 c1 c2 c3:Value):Blk (w.alloc (.cells #[c0,c1,c2,c3] 171)) w.heap.size c0 c1 c2 c3:=heap_alloc_new w _
theorem Rd.other{w:World}{b:Nat}{s:ByteArray}{k:Nat}(h:Rd w b s k){g:Nat}(hne:g≠b)(j:Nat)(v:Value):Rd (w.setCell ⟨g,j,none⟩ v) b s k:=by
 unfold Rd;rw[Below.heap_setCell _ _ _ _ (by intro e;exact hne e.symm)];exact h
theorem Rd.alloc{w:World}{b:Nat}{s:ByteArray}{k:Nat}(h:Rd w b s k)(o:Obj):Rd (w.alloc o) b s k :=
 h.below ((Below.refl _ _).alloc (xB _) _)
def Next(s:ByteArray)(k b:Nat)(w:World)(t:Tok)(ok:Bool)(er:Nat)(k2:Nat)(e:Ending)(w':World):Prop :=
 e=.returned (.tuple #[t.val,.bool ok,.int .i64 er])/\w.grownBy w' (some b)/\∃ k',Rd w' b s k'/\(er=0->k'=k2)
end Tk
theorem U6(s:ByteArray)(hs:s.size<=65536)(b k:Nat)(hk:k<=s.size)(hK:Tk.aP false s k=s.size)(w:World)(h:Tk.Rd w b s k) :
  Calls Tryz.prog 161 #[.pointer (some ⟨b,0,none⟩)] w (Tk.Next s k b w ⟨0,Tk.empty,0,0⟩ false 0 s.size):=by
 have HK:=hid hK;clear hK;have hlt:=h.lt;go_enter Tryz.func161,Tryz.ntmps161;go_wp2_with fail;refine(nP s (by unfold maxLen;omega) b k hk _ (h.below (((Below.refl _ _).alloc (xB _) _)))).mono ?_;rintro e w1⟨rfl,hg1,hR⟩;rw[HK.out]at hR;obtain⟨⟨g0,g1,g2,g3⟩,g4,g5,g6,g7⟩:=((Tk.Blk.new w _ _ _ _).grown hg1 (by intro e;cases e;omega)).facts;have c0:=hR.c0;have c1:=hR.c1;go_wp2_with fail;go_quiet (fail);go_wp2_with fail;(try simp only[Exit.inBlock,Exit.then])
 refine bodyPost_ret (v:=.tuple #[(⟨0,Tk.empty,0,0⟩:Tk.Tok).val,.bool false,.int .i64 0]) ?_ rfl ⟨rfl,?_,_,?_,λ_=>rfl⟩
 ·rw[fD rfl]
  go_simp;try rfl
 ·repeat(first|with_reducible exact zG _ _|refine aG ?_ (by omega) _ _|refine aC ?_ (grown_drewN _ _ _)|refine aC ?_ hg1|refine aC ?_ (World.grownBy_alloc _ _ _))
 ·repeat(first|exact hR|refine Tk.Rd.other ?_ (by omega) _ _|refine Tk.Rd.drewN ?_ _)
theorem RN(s:ByteArray)(hs:s.size<=65536)(b k K:Nat)(hk:k<=s.size)(hK:Tk.aP false s k=K)(hKs:K<s.size)(hL:Tk.cZ s[K].toNat=true)(ok:Bool)(er:Nat)(hov:ok=decide (Tk.aX Tk.aW s (K+1) - K<=32)/\er=Tk.over 32 (Tk.aX Tk.aW s (K+1) - K))(w:World)(h:Tk.Rd w b s k) :
  Calls Tryz.prog 161 #[.pointer (some ⟨b,0,none⟩)] w (Tk.Next s k b w ⟨1,s.extract K (Tk.aX Tk.aW s (K+1)),0,K⟩ ok er (Tk.aX Tk.aW s (K+1))):=by
 have hx:s[K].toNat<256:=s[K].toNat_lt;have HK:=hid hK;have HL:=hid hL;have HOV:=hid hov;have HN:Hid (Tk.aX Tk.aW s K=Tk.aX Tk.aW s (K+1)):=hid (Tk.ig hKs (by unfold Tk.aW;rw[hL];rfl));have hge:=Tk.ku Tk.aW s (K+1);have hle:=Tk.jf (p:=Tk.aW) (s:=s) (k:=K+1) (by omega);clear hK hL hov;have hlt:=h.lt;have hKi:(K:Int)<(s.size:Int):=by omega
 have tK:((K:Int)==(s.size:Int))=false:=by simp;omega
 go_enter Tryz.func161,Tryz.ntmps161;go_wp2_with fail;refine(nP s (by unfold maxLen;omega) b k hk _ (h.below (((Below.refl _ _).alloc (xB _) _)))).mono ?_;rintro e w1⟨rfl,hg1,hR⟩;rw[HK.out]at hR;have hB:=(Tk.Blk.new w _ _ _ _).grown hg1 (by intro e;cases e;omega);have hz1:w.heap.size+1<=w1.heap.size:=by have:=hg1.size;simp at this;omega
 have c0:=hR.c0;have c1:=hR.c1;go_wp2_with fail;go_quiet (fail);clear c0 c1;replace hg1:=aC (World.grownBy_alloc _ _ _) (aC hg1 (grown_drewN _ nq _));replace hB:=hB.grown (grown_drewN _ nq none) (by simp);replace hR:=hR.drewN nq;have hz1':w.heap.size+1<=(w1.drewN nq).heap.size:=hz1;clear hz1;generalize w1.drewN nq=w2 at hg1 hB hR hz1' ⊢;have hbl:=hR.lt;have c0:=hR.c0;have c1:=hR.c1;go_wp2_with fail;go_quiet (fail);go_wp2_with fail;refine(gQ _ hx _).mono ?_;rintro e w2⟨rfl,rfl⟩;rw[HL.out];have hg3:w.grownBy ((w2.alloc (.cells #[.int .u8 0,.string ⟨#[]⟩,.int .i64 0,.int .i64 K] 171)).drewN nq) (some b):=aC (aC hg1 (World.grownBy_alloc _ _ _)) (grown_drewN _ _ _);have hB3:=(hB.grown (World.grownBy_alloc w2 (.cells #[.int .u8 0,.string ⟨#[]⟩,.int .i64 0,.int .i64 K] 171) none) (by simp)).grown (grown_drewN _ nq none) (by simp);have hT3:=(Tk.Blk.new w2 (.int .u8 0) (.string ⟨#[]⟩) (.int .i64 0) (.int .i64 K)).grown (grown_drewN _ nq none) (by simp);have hR3:=(hR.alloc (.cells #[.int .u8 0,.string ⟨#[]⟩,.int .i64 0,.int .i64 K] 171)).drewN nq;clear c0 c1 hg1 hB hR;generalize((w2.alloc (.cells #[.int .u8 0,.string ⟨#[]⟩,.int .i64 0,.int .i64 K] 171)).drewN nq)=w3 at hg3 hB3 hT3 hR3 ⊢;go_wp2_with fail;refine(Gi s (by unfold maxLen;omega) b K (by omega) _ hR3).mono ?_;rintro e w4⟨rfl,hg4,hR4⟩;rw[HN.out]at hR4 ⊢;have hB4:=hB3.grown hg4 (by intro e;cases e;omega);have hT4:=hT3.grown hg4 (by intro e;cases e;omega);obtain⟨⟨g0,g1,g2,g3⟩,g4,g5,g6,g7⟩:=hB4.facts;obtain⟨⟨t0,t1,t2,t3⟩,t4,t5,t6,t7⟩:=hT4.facts;have hz2:w.heap.size<w2.heap.size:=by omega
 generalize Tk.aX Tk.aW s (K+1)=E at *;have hki:(K:Int)<=(E:Int):=by omega
 by_cases h32:32<E - K
 ·have JO:(32:Int)<(E:Int) - (K:Int):=by omega
  go_wp2_with fail;(try simp only[Exit.inBlock,Exit.then])
  refine bodyPost_ret (v:=.tuple #[(⟨1,s.extract K E,0,K⟩:Tk.Tok).val,.bool false,.int .i64 3]) ?_ rfl ⟨?_,by exact aG (aG (aG (aG (aG (aG (aC hg3 hg4) (by omega) 0 _) (by omega) 1 _) (by omega) 0 _) (by omega) 1 _) (by omega) 2 _) (by omega) 3 _,E,by exact(((((hR4.other (by omega) 0 _).other (by omega) 1 _).other (by omega) 0 _).other (by omega) 1 _).other (by omega) 2 _).other (by omega) 3 _,λ_=>rfl⟩
  ·rw[fD rfl]
   go_simp;try rfl
  ·rw[HOV.out.1,HOV.out.2]
   unfold Tk.over;rw[if_pos h32,decide_eq_false (by omega)];rfl
 ·have JO:¬(32:Int)<(E:Int) - (K:Int):=by omega
  go_wp2_with fail;(try simp only[Exit.inBlock,Exit.then])
  refine bodyPost_ret (v:=.tuple #[(⟨1,s.extract K E,0,K⟩:Tk.Tok).val,.bool true,.int .i64 0]) ?_ rfl ⟨?_,by exact aG (aG (aG (aG (aG (aG (aC hg3 hg4) (by omega) 0 _) (by omega) 1 _) (by omega) 0 _) (by omega) 1 _) (by omega) 2 _) (by omega) 3 _,E,by exact(((((hR4.other (by omega) 0 _).other (by omega) 1 _).other (by omega) 0 _).other (by omega) 1 _).other (by omega) 2 _).other (by omega) 3 _,λ_=>rfl⟩
  ·rw[fD rfl]
   go_simp;try rfl
  ·rw[HOV.out.1,HOV.out.2]
   unfold Tk.over;rw[if_neg h32,decide_eq_true (by omega)];rfl
theorem RQ(s:ByteArray)(hs:s.size<=65536)(b k K:Nat)(hk:k<=s.size)(hK:Tk.aP false s k=K)(hKs:K<s.size)(hL:Tk.cZ s[K].toNat=false)(hD:Tk.isDigit s[K].toNat=true)(E:Nat)(hE:Tk.aX Tk.isDigit s (K+1)=E)(h9:9<E - K)(w:World)(h:Tk.Rd w b s k) :
  Calls Tryz.prog 161 #[.pointer (some ⟨b,0,none⟩)] w (Tk.Next s k b w ⟨2,s.extract K E,0,K⟩ false 3 E):=by
 have hx:s[K].toNat<256:=s[K].toNat_lt;have HK:=hid hK;have HL:=hid hL;clear hK hL;have hlt:=h.lt;have hKi:(K:Int)<(s.size:Int):=by omega
 have tK:((K:Int)==(s.size:Int))=false:=by simp;omega
 have HD:=hid hD;have HE:=hid hE;have HN:Hid (Tk.aX Tk.isDigit s K=E):=hid ((Tk.ig hKs hD).trans hE);have hge:K+1<=E:=hE ▸ Tk.ku Tk.isDigit s (K+1);have hle:E<=s.size:=hE ▸ Tk.jf (p:=Tk.isDigit) (s:=s) (k:=K+1) (by omega);have HG:Hid (∀ m,K<=m->m<E->∀ h:m<s.size,Tk.isDigit s[m].toNat=true):=by
  apply hid;intro m h1 h2 h3;by_cases hmk:m=K
  ·subst hmk;exact hD
  ·exact Tk.uM (k:=K+1) (by omega) (by rw[hE];exact h2) h3
 clear hD hE;have hki:(K:Int)<=(E:Int):=by omega
 have h9i:(9:Int)<(E:Int) - (K:Int):=by omega
 go_enter Tryz.func161,Tryz.ntmps161;go_wp2_with fail;refine(nP s (by unfold maxLen;omega) b k hk _ (h.below (((Below.refl _ _).alloc (xB _) _)))).mono ?_;rintro e w1⟨rfl,hg1,hR⟩;rw[HK.out]at hR;have hB:=(Tk.Blk.new w _ _ _ _).grown hg1 (by intro e;cases e;omega);have hz1:w.heap.size+1<=w1.heap.size:=by have:=hg1.size;simp at this;omega
 have c0:=hR.c0;have c1:=hR.c1;go_wp2_with fail;go_quiet (fail);clear c0 c1;replace hg1:=aC (World.grownBy_alloc _ _ _) (aC hg1 (grown_drewN _ nq _));replace hB:=hB.grown (grown_drewN _ nq none) (by simp);replace hR:=hR.drewN nq;have hz1':w.heap.size+1<=(w1.drewN nq).heap.size:=hz1;clear hz1;generalize w1.drewN nq=w2 at hg1 hB hR hz1' ⊢;have hbl:=hR.lt;have c0:=hR.c0;have c1:=hR.c1;go_wp2_with fail;go_quiet (fail);go_wp2_with fail;refine(gQ _ hx _).mono ?_;rintro e w3⟨rfl,rfl⟩;rw[HL.out];have hg3:w.grownBy ((w2.alloc (.cells #[.int .u8 0,.string ⟨#[]⟩,.int .i64 0,.int .i64 K] 171)).drewN nq) (some b):=aC (aC hg1 (World.grownBy_alloc _ _ _)) (grown_drewN _ _ _);have hB3:=(hB.grown (World.grownBy_alloc w2 (.cells #[.int .u8 0,.string ⟨#[]⟩,.int .i64 0,.int .i64 K] 171) none) (by simp)).grown (grown_drewN _ nq none) (by simp);have hT3:=(Tk.Blk.new w2 (.int .u8 0) (.string ⟨#[]⟩) (.int .i64 0) (.int .i64 K)).grown (grown_drewN _ nq none) (by simp);have hR3:=(hR.alloc (.cells #[.int .u8 0,.string ⟨#[]⟩,.int .i64 0,.int .i64 K] 171)).drewN nq;clear c0 c1 hg1 hB hR;generalize((w2.alloc (.cells #[.int .u8 0,.string ⟨#[]⟩,.int .i64 0,.int .i64 K] 171)).drewN nq)=w3 at hg3 hB3 hT3 hR3 ⊢;have hz2:w.heap.size<w2.heap.size:=by omega
 have hz3:=hT3.lt;go_wp2_with fail;refine(kS _ hx _).mono ?_;rintro e w4⟨rfl,rfl⟩;rw[HD.out];go_wp2_with fail;refine(Ba s (by unfold maxLen;omega) b K (by omega) _ hR3).mono ?_;rintro e w4⟨rfl,hg4,hR4⟩;rw[HN.out]at hR4 ⊢;have hB4:=hB3.grown hg4 (by intro e;cases e;omega);have hT4:=hT3.grown hg4 (by intro e;cases e;omega);obtain⟨⟨g0,g1,g2,g3⟩,g4,g5,g6,g7⟩:=hB4.facts;obtain⟨⟨t0,t1,t2,t3⟩,t4,t5,t6,t7⟩:=hT4.facts;have hz4:=hT4.lt;go_wp2_with fail;(try simp only[Exit.inBlock,Exit.then])
 refine bodyPost_ret (v:=.tuple #[(⟨2,s.extract K E,0,K⟩:Tk.Tok).val,.bool false,.int .i64 3]) ?_ rfl ⟨rfl,?_,E,?_,λ_=>rfl⟩
 ·rw[fD rfl]
  go_simp;try rfl
 ·refine aG ?_ (by omega) 3 _
  refine aG ?_ (by omega) 2 _;refine aG ?_ (by omega) 1 _;refine aG ?_ (by omega) 0 _;refine aG ?_ (by omega) 1 _;refine aG ?_ (by omega) 0 _;exact aC hg3 hg4
 ·refine Tk.Rd.other ?_ (by omega) 3 _
  refine Tk.Rd.other ?_ (by omega) 2 _;refine Tk.Rd.other ?_ (by omega) 1 _;refine Tk.Rd.other ?_ (by omega) 0 _;refine Tk.Rd.other ?_ (by omega) 1 _;refine Tk.Rd.other ?_ (by omega) 0 _;exact hR4
theorem LW(s:ByteArray)(hs:s.size<=65536)(b k K:Nat)(hk:k<=s.size)(hK:Tk.aP false s k=K)(hKs:K<s.size)(hL:Tk.cZ s[K].toNat=false)(hD:Tk.isDigit s[K].toNat=true)(E:Nat)(hE:Tk.aX Tk.isDigit s (K+1)=E)(h9:¬9<E - K)(h48:s[K].toNat=48)(h1:1<E - K)(w:World)(h:Tk.Rd w b s k) :
  Calls Tryz.prog 161 #[.pointer (some ⟨b,0,none⟩)] w (Tk.Next s k b w ⟨2,s.extract K E,0,K⟩ false 110 E):=by
 have hx:s[K].toNat<256:=s[K].toNat_lt;have HK:=hid hK;have HL:=hid hL;clear hK hL;have hlt:=h.lt;have hKi:(K:Int)<(s.size:Int):=by omega
 have tK:((K:Int)==(s.size:Int))=false:=by simp;omega
 have HD:=hid hD;have HE:=hid hE;have HN:Hid (Tk.aX Tk.isDigit s K=E):=hid ((Tk.ig hKs hD).trans hE);have hge:K+1<=E:=hE ▸ Tk.ku Tk.isDigit s (K+1);have hle:E<=s.size:=hE ▸ Tk.jf (p:=Tk.isDigit) (s:=s) (k:=K+1) (by omega);have HG:Hid (∀ m,K<=m->m<E->∀ h:m<s.size,Tk.isDigit s[m].toNat=true):=by
  apply hid;intro m h1 h2 h3;by_cases hmk:m=K
  ·subst hmk;exact hD
  ·exact Tk.uM (k:=K+1) (by omega) (by rw[hE];exact h2) h3
 clear hD hE;have hki:(K:Int)<=(E:Int):=by omega
 have h9i:¬(9:Int)<(E:Int) - (K:Int):=by omega
 have h1i:(1:Int)<(E:Int) - (K:Int):=by omega
 have t48:((s[K].toNat:Int)==48)=true:=by simp;omega
 clear h48;go_enter Tryz.func161,Tryz.ntmps161;go_wp2_with fail;refine(nP s (by unfold maxLen;omega) b k hk _ (h.below (((Below.refl _ _).alloc (xB _) _)))).mono ?_;rintro e w1⟨rfl,hg1,hR⟩;rw[HK.out]at hR;have hB:=(Tk.Blk.new w _ _ _ _).grown hg1 (by intro e;cases e;omega);have hz1:w.heap.size+1<=w1.heap.size:=by have:=hg1.size;simp at this;omega
 have c0:=hR.c0;have c1:=hR.c1;go_wp2_with fail;go_quiet (fail);clear c0 c1;replace hg1:=aC (World.grownBy_alloc _ _ _) (aC hg1 (grown_drewN _ nq _));replace hB:=hB.grown (grown_drewN _ nq none) (by simp);replace hR:=hR.drewN nq;have hz1':w.heap.size+1<=(w1.drewN nq).heap.size:=hz1;clear hz1;generalize w1.drewN nq=w2 at hg1 hB hR hz1' ⊢;have hbl:=hR.lt;have c0:=hR.c0;have c1:=hR.c1;go_wp2_with fail;go_quiet (fail);go_wp2_with fail;refine(gQ _ hx _).mono ?_;rintro e w3⟨rfl,rfl⟩;rw[HL.out];have hg3:w.grownBy ((w2.alloc (.cells #[.int .u8 0,.string ⟨#[]⟩,.int .i64 0,.int .i64 K] 171)).drewN nq) (some b):=aC (aC hg1 (World.grownBy_alloc _ _ _)) (grown_drewN _ _ _);have hB3:=(hB.grown (World.grownBy_alloc w2 (.cells #[.int .u8 0,.string ⟨#[]⟩,.int .i64 0,.int .i64 K] 171) none) (by simp)).grown (grown_drewN _ nq none) (by simp);have hT3:=(Tk.Blk.new w2 (.int .u8 0) (.string ⟨#[]⟩) (.int .i64 0) (.int .i64 K)).grown (grown_drewN _ nq none) (by simp);have hR3:=(hR.alloc (.cells #[.int .u8 0,.string ⟨#[]⟩,.int .i64 0,.int .i64 K] 171)).drewN nq;clear c0 c1 hg1 hB hR;generalize((w2.alloc (.cells #[.int .u8 0,.string ⟨#[]⟩,.int .i64 0,.int .i64 K] 171)).drewN nq)=w3 at hg3 hB3 hT3 hR3 ⊢;have hz2:w.heap.size<w2.heap.size:=by omega
 have hz3:=hT3.lt;go_wp2_with fail;refine(kS _ hx _).mono ?_;rintro e w4⟨rfl,rfl⟩;rw[HD.out];go_wp2_with fail;refine(Ba s (by unfold maxLen;omega) b K (by omega) _ hR3).mono ?_;rintro e w4⟨rfl,hg4,hR4⟩;rw[HN.out]at hR4 ⊢;have hB4:=hB3.grown hg4 (by intro e;cases e;omega);have hT4:=hT3.grown hg4 (by intro e;cases e;omega);obtain⟨⟨g0,g1,g2,g3⟩,g4,g5,g6,g7⟩:=hB4.facts;obtain⟨⟨t0,t1,t2,t3⟩,t4,t5,t6,t7⟩:=hT4.facts;have hz4:=hT4.lt;go_wp2_with fail;(try simp only[Exit.inBlock,Exit.then])
 refine bodyPost_ret (v:=.tuple #[(⟨2,s.extract K E,0,K⟩:Tk.Tok).val,.bool false,.int .i64 110]) ?_ rfl ⟨rfl,?_,E,?_,λ_=>rfl⟩
 ·rw[fD rfl]
  go_simp;try rfl
 ·refine aG ?_ (by omega) 3 _
  refine aG ?_ (by omega) 2 _;refine aG ?_ (by omega) 1 _;refine aG ?_ (by omega) 0 _;refine aG ?_ (by omega) 1 _;refine aG ?_ (by omega) 0 _;exact aC hg3 hg4
 ·refine Tk.Rd.other ?_ (by omega) 3 _
  refine Tk.Rd.other ?_ (by omega) 2 _;refine Tk.Rd.other ?_ (by omega) 1 _;refine Tk.Rd.other ?_ (by omega) 0 _;refine Tk.Rd.other ?_ (by omega) 1 _;refine Tk.Rd.other ?_ (by omega) 0 _;exact hR4
namespace Tk
theorem KC(t:ByteArray)(cap i:Nat)(h:i<t.size):(bytesRow t cap)[i]?=some (.int .u8 (byte t i)):=by
 unfold bytesRow;rw[Array.getElem?_append_left (by simpa using h)];rw[Array.getElem?_map];have:t.data[i]?=some t.data[i]:=yD (by simpa using h);rw[this,jL h];rfl
theorem KE{s:ByteArray}{K E i:Nat}(hE:E<=s.size)(h:K+i<E):byte (s.extract K E) i=byte s (K+i):=by
 unfold byte;rw[Lib.extract_data];rw[yG,yG,List.getElem?_take_of_lt (by omega),List.getElem?_drop]
theorem Blk.set2{w:World}{g:Nat}{c0 c1 c2 c3:Value}(h:Blk w g c0 c1 c2 c3)(v:Value):Blk (w.setCell ⟨g,2,none⟩ v) g c0 c1 v c3:=by
 have hlt:=lt_of_block h;unfold Blk at h;have h':w.heap[g]=.cells #[c0,c1,c2,c3] 171 (0,0):=by simpa[yD hlt]using h
 show(w.heap.modify g _)[g]?=_
 rw[yD (by simpa using hlt),Array.getElem_modify_self,h'];rfl
theorem Blk.set0{w:World}{g:Nat}{c0 c1 c2 c3:Value}(h:Blk w g c0 c1 c2 c3)(v:Value):Blk (w.setCell ⟨g,0,none⟩ v) g v c1 c2 c3:=by
 have hlt:=lt_of_block h;unfold Blk at h;have h':w.heap[g]=.cells #[c0,c1,c2,c3] 171 (0,0):=by simpa[yD hlt]using h
 show(w.heap.modify g _)[g]?=_
 rw[yD (by simpa using hlt),Array.getElem_modify_self,h'];rfl
theorem Blk.set1{w:World}{g:Nat}{c0 c1 c2 c3:Value}(h:Blk w g c0 c1 c2 c3)(v:Value):Blk (w.setCell ⟨g,1,none⟩ v) g c0 v c2 c3:=by
 have hlt:=lt_of_block h;unfold Blk at h;have h':w.heap[g]=.cells #[c0,c1,c2,c3] 171 (0,0):=by simpa[yD hlt]using h
 show(w.heap.modify g _)[g]?=_
 rw[yD (by simpa using hlt),Array.getElem_modify_self,h'];rfl
theorem Blk.other{w:World}{g:Nat}{c0 c1 c2 c3:Value}(h:Blk w g c0 c1 c2 c3){g':Nat}(hne:g'≠g)(j:Nat)(v:Value):Blk (w.setCell ⟨g',j,none⟩ v) g c0 c1 c2 c3:=by
 unfold Blk;rw[Below.heap_setCell _ _ _ _ (by intro e;exact hne e.symm)];exact h
theorem Blk.old{w:World}{g:Nat}{c0 c1 c2 c3:Value}(h:Blk w g c0 c1 c2 c3)(o:Obj):Blk (w.alloc o) g c0 c1 c2 c3:=h.grown (World.grownBy_alloc w o none) (by simp)
theorem Blk.drew{w:World}{g:Nat}{c0 c1 c2 c3:Value}(h:Blk w g c0 c1 c2 c3):Blk w.drew g c0 c1 c2 c3:=h
theorem Rd.drew{w:World}{b:Nat}{s:ByteArray}{k:Nat}(h:Rd w b s k):Rd w.drew b s k:=h
def Lies(w:World)(g:Nat)(t:ByteArray):Prop:=∀ i,i<t.size->w.cell? ⟨g,i,none⟩=some (.int .u8 (byte t i))
theorem Lies.new(w:World)(t:ByteArray)(cap:Nat)(e:TypeId)(fr:Nat × Nat)(g:Nat)(hg:g=w.heap.size):Lies (w.alloc (.cells (bytesRow t cap) e fr)) g t:=by
 subst hg;intro i hi;rw[cell_of_row _ w.heap.size i _ _ _ (heap_alloc_new w _)];exact KC t cap i hi
theorem Lies.other{w:World}{g:Nat}{t:ByteArray}(h:Lies w g t){g':Nat}(hne:g'≠g)(j:Nat)(v:Value):Lies (w.setCell ⟨g',j,none⟩ v) g t:=by
 intro i hi;have e:(w.setCell ⟨g',j,none⟩ v).heap[g]?=w.heap[g]?:=Below.heap_setCell _ _ _ _ (by intro e;exact hne e.symm);rw[World.cell?_of_block (w:=w) (a:=⟨g,i,none⟩) e];exact h i hi
end Tk
theorem grown_drew(w:World)(r:Option Nat):w.grownBy w.drew r:=⟨rfl,rfl,rfl,xB _,λ_ _ _=>rfl⟩
theorem LV(s:ByteArray)(hs:s.size<=65536)(b k K:Nat)(hk:k<=s.size)(hK:Tk.aP false s k=K)(hKs:K<s.size)(hL:Tk.cZ s[K].toNat=false)(hD:Tk.isDigit s[K].toNat=true)(E:Nat)(hE:Tk.aX Tk.isDigit s (K+1)=E)(h9:¬9<E - K)(hn:¬(s[K].toNat=48/\1<E - K))(w:World)(h:Tk.Rd w b s k) :
  Calls Tryz.prog 161 #[.pointer (some ⟨b,0,none⟩)] w (Tk.Next s k b w ⟨2,s.extract K E,Tk.num s K E,K⟩ true 0 E):=by
 have hx:s[K].toNat<256:=s[K].toNat_lt;have HK:=hid hK;have HL:=hid hL;clear hK hL;have hlt:=h.lt;have hKi:(K:Int)<(s.size:Int):=by omega
 have tK:((K:Int)==(s.size:Int))=false:=by simp;omega
 have HD:=hid hD;have HE:=hid hE;have HN:Hid (Tk.aX Tk.isDigit s K=E):=hid ((Tk.ig hKs hD).trans hE);have hge:K+1<=E:=hE ▸ Tk.ku Tk.isDigit s (K+1);have hle:E<=s.size:=hE ▸ Tk.jf (p:=Tk.isDigit) (s:=s) (k:=K+1) (by omega);have HG:Hid (∀ m,K<=m->m<E->∀ h:m<s.size,Tk.isDigit s[m].toNat=true):=by
  apply hid;intro m h1 h2 h3;by_cases hmk:m=K
  ·subst hmk;exact hD
  ·exact Tk.uM (k:=K+1) (by omega) (by rw[hE];exact h2) h3
 clear hD hE;have hki:(K:Int)<=(E:Int):=by omega
 have h9i:¬(9:Int)<(E:Int) - (K:Int):=by omega
 have hcv:=λw=>run_bytes_of_string (P:=Tryz.prog) w 9 120 5 (s.extract K E) Tryz.underlying9 Tryz.underlying120 Tryz.underlying5
 have hsz:(s.extract K E).size=E - K:=by simp;omega
 have HSZ:=hid hsz;clear hsz;have h4:(((s[K].toNat:Int)==48)=true/\¬(1:Int)<(E:Int) - (K:Int))∨((s[K].toNat:Int)==48)=false:=by
  by_cases h48:s[K].toNat=48
  ·exact .inl ⟨by simp;omega,by omega⟩
  ·exact .inr (by simp;omega)
 clear hn;rcases h4 with⟨t48,h1i⟩|t48
 all_goals
  go_enter Tryz.func161,Tryz.ntmps161;go_wp2_with fail;refine(nP s (by unfold maxLen;omega) b k hk _ (h.below (((Below.refl _ _).alloc (xB _) _)))).mono ?_;rintro e w1⟨rfl,hg1,hR⟩;rw[HK.out]at hR;have hB:=(Tk.Blk.new w _ _ _ _).grown hg1 (by intro e;cases e;omega);have hz1:w.heap.size+1<=w1.heap.size:=by have:=hg1.size;simp at this;omega
  have c0:=hR.c0;have c1:=hR.c1;go_wp2_with fail;go_quiet (fail);clear c0 c1;replace hg1:=aC (World.grownBy_alloc _ _ _) (aC hg1 (grown_drewN _ nq _));replace hB:=hB.grown (grown_drewN _ nq none) (by simp);replace hR:=hR.drewN nq;have hz1':w.heap.size+1<=(w1.drewN nq).heap.size:=hz1;clear hz1;generalize w1.drewN nq=w2 at hg1 hB hR hz1' ⊢;have hbl:=hR.lt;have c0:=hR.c0;have c1:=hR.c1;go_wp2_with fail;go_quiet (fail);go_wp2_with fail;refine(gQ _ hx _).mono ?_;rintro e w3⟨rfl,rfl⟩;rw[HL.out];have hg3:w.grownBy ((w2.alloc (.cells #[.int .u8 0,.string ⟨#[]⟩,.int .i64 0,.int .i64 K] 171)).drewN nq) (some b):=aC (aC hg1 (World.grownBy_alloc _ _ _)) (grown_drewN _ _ _);have hB3:=(hB.grown (World.grownBy_alloc w2 (.cells #[.int .u8 0,.string ⟨#[]⟩,.int .i64 0,.int .i64 K] 171) none) (by simp)).grown (grown_drewN _ nq none) (by simp);have hT3:=(Tk.Blk.new w2 (.int .u8 0) (.string ⟨#[]⟩) (.int .i64 0) (.int .i64 K)).grown (grown_drewN _ nq none) (by simp);have hR3:=(hR.alloc (.cells #[.int .u8 0,.string ⟨#[]⟩,.int .i64 0,.int .i64 K] 171)).drewN nq;clear c0 c1 hg1 hB hR;generalize((w2.alloc (.cells #[.int .u8 0,.string ⟨#[]⟩,.int .i64 0,.int .i64 K] 171)).drewN nq)=w3 at hg3 hB3 hT3 hR3 ⊢;have hz2:w.heap.size<w2.heap.size:=by omega
  have hz3:=hT3.lt;go_wp2_with fail;refine(kS _ hx _).mono ?_;rintro e w4⟨rfl,rfl⟩;rw[HD.out];go_wp2_with fail;refine(Ba s (by unfold maxLen;omega) b K (by omega) _ hR3).mono ?_;rintro e w4⟨rfl,hg4,hR4⟩;rw[HN.out]at hR4 ⊢;have hB4:=hB3.grown hg4 (by intro e;cases e;omega);have hT4:=hT3.grown hg4 (by intro e;cases e;omega);obtain⟨⟨g0,g1,g2,g3⟩,g4,g5,g6,g7⟩:=hB4.facts;obtain⟨⟨t0,t1,t2,t3⟩,t4,t5,t6,t7⟩:=hT4.facts;have hz4:=hT4.lt;go_wp2_with fail;clear g0 g1 g2 g3 g4 g5 g6 g7 t0 t1 t2 t3 t4 t5 t6 t7 hcv;go_loopg [76] (E - K) (λn i wr=>∃ j:Nat,n=E - K - j/\j<=E - K/\i=.int .i64 j/\Tk.Blk wr w.heap.size (.int .u8 0) (.string ⟨#[]⟩) (.int .i64 0) (.int .i64 0)/\Tk.Blk wr w2.heap.size (.int .u8 2) (.string (s.extract K E)) (.int .i64 (Tk.num s K (K+j))) (.int .i64 K)/\Tk.Rd wr b s E/\Tk.Lies wr w4.heap.size (s.extract K E)/\w.grownBy wr (some b)/\Hid (Tk.num s K (K+j)<10 ^ j))
  case atStart =>
   refine⟨0,by omega,by omega,rfl,?_,?_,?_,?_,?_,?_⟩
   ·exact(((hB4.other (by omega) 0 _).other (by omega) 1 _).drew).old _
   ·have hn0:Tk.num s K (K+0)=0:=Tk.kC s K
    rw[hn0];exact(((hT4.set0 _).set1 _).drew).old _
   ·exact(((hR4.other (by omega) 0 _).other (by omega) 1 _).drew).alloc _
   ·exact Tk.Lies.new _ _ _ _ _ _ (by simp)
   ·exact aC (aC (aG (aG (aC hg3 hg4) (by omega) _ _) (by omega) _ _) (grown_drew _ _)) (World.grownBy_alloc _ _ _)
   ·exact hid (by rw[xK,Tk.kC];decide)
  case round =>
   obtain⟨j,rfl,hj,rfl,hB5,hT5,hR5,hLi,hg5,HNJ⟩:=hrel;have hz5:=hT5.lt;by_cases hlj:j<E - K
   ·obtain⟨⟨g0,g1,g2,g3⟩,g4,g5,g6,g7⟩:=hB5.facts
    obtain⟨⟨t0,t1,t2,t3⟩,t4,t5,t6,t7⟩:=hT5.facts;have hdig:=HG.out (K+j) (by omega) (by omega) (by omega);have hcell:=hLi j (by rw[HSZ.out];exact hlj);have HS:=hid (Tk.qX (s:=s) (k:=K) (m:=K+j) (by omega) (by omega));have HL2:=hid (Tk.pR (s:=s) (k:=K) (m:=K+j) (by omega) (by omega) hdig (by rw[show K+j - K=j from by omega];exact HNJ.out));have hsm:=Tk.tH HNJ.out (by omega);rw[Tk.KE hle (by omega),Tk.jL (by omega)]at hcell;have hdd:48<=s[K+j].toNat/\s[K+j].toNat<=57:=by unfold Tk.isDigit at hdig;simpa using hdig
    obtain⟨d1,d2⟩:=hdd;clear hdig;generalize s[K+j].toNat=d at hcell HS d1 d2;generalize hN:Tk.num s K (K+j)=N at *;have HN2:=hid hN;clear hN;have hji:(j:Int)<((E - K:Nat):Int):=by omega
    go_wp2_with fail;go_roundg (E - K - (j+1))
    case rel =>
     refine⟨j+1,rfl,by omega,by go_num,hB5.other (by omega) _ _,?_,hR5.other (by omega) _ _,hLi.other (by omega) _ _,aG hg5 (by omega) _ _,?_⟩
     ·have e:Tk.num s K (K+(j+1))=10 * N+(d - 48):=HS.out
      rw[e,show((10 * N+(d - 48):Nat):Int)=10 * (N:Int)+((d:Int) - 48)from by omega];exact hT5.set2 _
     ·have h:=HL2.out
      rw[show K+j+1 - K=j+1 from by omega]at h;exact hid h
    case measure=>omega
   ·obtain rfl:j=E - K:=by omega
    rw[show K+(E - K)=E from by omega]at hT5;obtain⟨⟨g0,g1,g2,g3⟩,g4,g5,g6,g7⟩:=hB5.facts;obtain⟨⟨t0,t1,t2,t3⟩,t4,t5,t6,t7⟩:=hT5.facts;go_wp2_with fail;(try simp only[Exit.inBlock,Exit.then])
    refine bodyPost_ret (v:=.tuple #[(⟨2,s.extract K E,Tk.num s K E,K⟩:Tk.Tok).val,.bool true,.int .i64 0]) ?_ rfl ⟨rfl,?_,E,?_,λ_=>rfl⟩
    ·rw[fD rfl]
     go_simp;try rfl
    ·exact aG (aG (aG (aG hg5 (by omega) 0 _) (by omega) 1 _) (by omega) 2 _) (by omega) 3 _
    ·exact(((hR5.other (by omega) 0 _).other (by omega) 1 _).other (by omega) 2 _).other (by omega) 3 _
namespace Tk
def signs:ByteArray:=⟨#[123,125,40,41,59,58,44,46]⟩
theorem EZ:∀ x,x<256->(kG x=true↔0<=Lib.indexByte [123,125,40,41,59,58,44,46] x.toUInt8):=by decide +kernel
theorem Bj{s:ByteArray}{k:Nat}(h:k<s.size):Lib.hasPrefix (from_ s k) [45,62]=decide (s[k].toNat=45/\k+1<s.size/\byte s (k+1)=62):=by
 rw[Bool.eq_iff_iff,Nl 45 62 h,decide_eq_true_iff];constructor
 ·rintro⟨h1,h2,h3⟩;exact⟨by rw[h1];rfl,h2,by rw[jL h2,h3];rfl⟩
 ·rintro⟨h1,h2,h3⟩;exact⟨UInt8.toNat_inj.1 h1,h2,UInt8.toNat_inj.1 (by rw[jL h2]at h3;exact h3)⟩
end Tk
theorem RP(s:ByteArray)(hs:s.size<=65536)(b k K:Nat)(hk:k<=s.size)(hK:Tk.aP false s k=K)(hKs:K<s.size)(hL:Tk.cZ s[K].toNat=false)(hD:Tk.isDigit s[K].toNat=false)(hS:Tk.kG s[K].toNat=true)(w:World)(h:Tk.Rd w b s k) :
  Calls Tryz.prog 161 #[.pointer (some ⟨b,0,none⟩)] w (Tk.Next s k b w ⟨3,s.extract K (K+1),0,K⟩ true 0 (K+1)):=by
 have hx:s[K].toNat<256:=s[K].toNat_lt;have HK:=hid hK;have HL:=hid hL;clear hK hL;have hlt:=h.lt;have hKi:(K:Int)<(s.size:Int):=by omega
 have tK:((K:Int)==(s.size:Int))=false:=by simp;omega
 have HD:=hid hD;clear hD;have h0:=hid (jF (Tryz.strings_IndexByte Tk.signs s[K].toNat) (v':=.int .i64 (Lib.indexByte [123,125,40,41,59,58,44,46] s[K].toNat.toUInt8)) rfl);have h1:=Tk.EZ s[K].toNat hx;have h2:=h1.1 hS;clear h1 hS;go_enter Tryz.func161,Tryz.ntmps161;go_wp2_with fail;refine(nP s (by unfold maxLen;omega) b k hk _ (h.below (((Below.refl _ _).alloc (xB _) _)))).mono ?_;rintro e w1⟨rfl,hg1,hR⟩;rw[HK.out]at hR;have hB:=(Tk.Blk.new w _ _ _ _).grown hg1 (by intro e;cases e;omega);have hz1:w.heap.size+1<=w1.heap.size:=by have:=hg1.size;simp at this;omega
 have c0:=hR.c0;have c1:=hR.c1;go_wp2_with fail;go_quiet (fail);clear c0 c1;replace hg1:=aC (World.grownBy_alloc _ _ _) (aC hg1 (grown_drewN _ nq _));replace hB:=hB.grown (grown_drewN _ nq none) (by simp);replace hR:=hR.drewN nq;have hz1':w.heap.size+1<=(w1.drewN nq).heap.size:=hz1;clear hz1;generalize w1.drewN nq=w2 at hg1 hB hR hz1' ⊢;have hbl:=hR.lt;have c0:=hR.c0;have c1:=hR.c1;go_wp2_with fail;go_quiet (fail);go_wp2_with fail;refine(gQ _ hx _).mono ?_;rintro e w3⟨rfl,rfl⟩;rw[HL.out];have hg3:w.grownBy ((w2.alloc (.cells #[.int .u8 0,.string ⟨#[]⟩,.int .i64 0,.int .i64 K] 171)).drewN nq) (some b):=aC (aC hg1 (World.grownBy_alloc _ _ _)) (grown_drewN _ _ _);have hB3:=(hB.grown (World.grownBy_alloc w2 (.cells #[.int .u8 0,.string ⟨#[]⟩,.int .i64 0,.int .i64 K] 171) none) (by simp)).grown (grown_drewN _ nq none) (by simp);have hT3:=(Tk.Blk.new w2 (.int .u8 0) (.string ⟨#[]⟩) (.int .i64 0) (.int .i64 K)).grown (grown_drewN _ nq none) (by simp);have hR3:=(hR.alloc (.cells #[.int .u8 0,.string ⟨#[]⟩,.int .i64 0,.int .i64 K] 171)).drewN nq;clear c0 c1 hg1 hB hR;generalize((w2.alloc (.cells #[.int .u8 0,.string ⟨#[]⟩,.int .i64 0,.int .i64 K] 171)).drewN nq)=w3 at hg3 hB3 hT3 hR3 ⊢;have hz2:w.heap.size<w2.heap.size:=by omega
 have hz3:=hT3.lt;go_wp2_with fail;refine(kS _ hx _).mono ?_;rintro e w4⟨rfl,rfl⟩;rw[HD.out];go_wp2_with fail;refine(h0.out _).mono ?_;rintro e w4⟨rfl,hw4⟩;subst hw4;generalize Lib.indexByte [123,125,40,41,59,58,44,46] s[K].toNat.toUInt8=ix at h2 ⊢;obtain⟨⟨g0,g1,g2,g3⟩,g4,g5,g6,g7⟩:=hB3.facts;obtain⟨⟨t0,t1,t2,t3⟩,t4,t5,t6,t7⟩:=hT3.facts;have c0:=hR3.c0;have c1:=hR3.c1;have f1:=hR3.f1;have F5:b≠w2.heap.size:=by omega
 have hK1:(K:Int)+1<=(s.size:Int):=by omega
 go_wp2_with fail;go_region;all_goals
  go_wp2_with fail;(try simp only[Exit.inBlock,Exit.then])
  refine bodyPost_ret (v:=.tuple #[(⟨3,s.extract K (K+1),0,K⟩:Tk.Tok).val,.bool true,.int .i64 0]) ?_ rfl ⟨rfl,?_,K+1,?_,λ_=>rfl⟩
  ·rw[fD rfl]
   go_simp;try rfl
  ·refine aC ?_ (grown_drew _ _)
   refine aG ?_ (by omega) 3 _;refine aG ?_ (by omega) 2 _;refine aG ?_ (by omega) 1 _;refine aG ?_ (by omega) 0 _;refine aC ?_ (jg _ _ _ _);refine aG ?_ (by omega) 1 _;refine aG ?_ (by omega) 0 _;exact hg3
  ·have e1:((K:Int)+1)=((K+1:Nat):Int):=by simp
   rw[e1];refine Tk.Rd.drew ?_;refine Tk.Rd.other ?_ (by omega) 3 _;refine Tk.Rd.other ?_ (by omega) 2 _;refine Tk.Rd.other ?_ (by omega) 1 _;refine Tk.Rd.other ?_ (by omega) 0 _;refine Tk.Rd.set (k:=K) ?_ (K+1);refine Tk.Rd.other ?_ (by omega) 1 _;refine Tk.Rd.other ?_ (by omega) 0 _;exact hR3
theorem OU(s:ByteArray)(hs:s.size<=65536)(b k K:Nat)(hk:k<=s.size)(hK:Tk.aP false s k=K)(hKs:K<s.size)(hL:Tk.cZ s[K].toNat=false)(hD:Tk.isDigit s[K].toNat=false)(hS:Tk.kG s[K].toNat=false)(hA:s[K].toNat=45/\K+1<s.size/\Tk.byte s (K+1)=62)(w:World)(h:Tk.Rd w b s k) :
  Calls Tryz.prog 161 #[.pointer (some ⟨b,0,none⟩)] w (Tk.Next s k b w ⟨3,Tk.arrow,0,K⟩ true 0 (K+2)):=by
 have hx:s[K].toNat<256:=s[K].toNat_lt;have HK:=hid hK;have HL:=hid hL;clear hK hL;have hlt:=h.lt;have hKi:(K:Int)<(s.size:Int):=by omega
 have tK:((K:Int)==(s.size:Int))=false:=by simp;omega
 have HD:=hid hD;clear hD;have h0:=hid (jF (Tryz.strings_IndexByte Tk.signs s[K].toNat) (v':=.int .i64 (Lib.indexByte [123,125,40,41,59,58,44,46] s[K].toNat.toUInt8)) rfl);have h1:=Tk.EZ s[K].toNat hx;have hp:=(Tk.Bj hKs).trans (decide_eq_true hA);have HC:=hid (jF (Tryz.strings_HasPrefix (s.extract K s.size) ⟨#[45,62]⟩) (v':=.bool true) (by rw[Tk.lu,hp]));clear hp;have h2:Lib.indexByte [123,125,40,41,59,58,44,46] s[K].toNat.toUInt8<0:=by
  have:=mt h1.2 (by rw[hS];simp);omega
 clear h1 hS;have hK2:K+2<=s.size:=by omega
 clear hA;go_enter Tryz.func161,Tryz.ntmps161;go_wp2_with fail;refine(nP s (by unfold maxLen;omega) b k hk _ (h.below (((Below.refl _ _).alloc (xB _) _)))).mono ?_;rintro e w1⟨rfl,hg1,hR⟩;rw[HK.out]at hR;have hB:=(Tk.Blk.new w _ _ _ _).grown hg1 (by intro e;cases e;omega);have hz1:w.heap.size+1<=w1.heap.size:=by have:=hg1.size;simp at this;omega
 have c0:=hR.c0;have c1:=hR.c1;go_wp2_with fail;go_quiet (fail);clear c0 c1;replace hg1:=aC (World.grownBy_alloc _ _ _) (aC hg1 (grown_drewN _ nq _));replace hB:=hB.grown (grown_drewN _ nq none) (by simp);replace hR:=hR.drewN nq;have hz1':w.heap.size+1<=(w1.drewN nq).heap.size:=hz1;clear hz1;generalize w1.drewN nq=w2 at hg1 hB hR hz1' ⊢;have hbl:=hR.lt;have c0:=hR.c0;have c1:=hR.c1;go_wp2_with fail;go_quiet (fail);go_wp2_with fail;refine(gQ _ hx _).mono ?_;rintro e w3⟨rfl,rfl⟩;rw[HL.out];have hg3:w.grownBy ((w2.alloc (.cells #[.int .u8 0,.string ⟨#[]⟩,.int .i64 0,.int .i64 K] 171)).drewN nq) (some b):=aC (aC hg1 (World.grownBy_alloc _ _ _)) (grown_drewN _ _ _);have hB3:=(hB.grown (World.grownBy_alloc w2 (.cells #[.int .u8 0,.string ⟨#[]⟩,.int .i64 0,.int .i64 K] 171) none) (by simp)).grown (grown_drewN _ nq none) (by simp);have hT3:=(Tk.Blk.new w2 (.int .u8 0) (.string ⟨#[]⟩) (.int .i64 0) (.int .i64 K)).grown (grown_drewN _ nq none) (by simp);have hR3:=(hR.alloc (.cells #[.int .u8 0,.string ⟨#[]⟩,.int .i64 0,.int .i64 K] 171)).drewN nq;clear c0 c1 hg1 hB hR;generalize((w2.alloc (.cells #[.int .u8 0,.string ⟨#[]⟩,.int .i64 0,.int .i64 K] 171)).drewN nq)=w3 at hg3 hB3 hT3 hR3 ⊢;have hz2:w.heap.size<w2.heap.size:=by omega
 have hz3:=hT3.lt;go_wp2_with fail;refine(kS _ hx _).mono ?_;rintro e w4⟨rfl,rfl⟩;rw[HD.out];go_wp2_with fail;refine(h0.out _).mono ?_;rintro e w4⟨rfl,hw4⟩;subst hw4;generalize Lib.indexByte [123,125,40,41,59,58,44,46] s[K].toNat.toUInt8=ix at h2 ⊢;obtain⟨⟨g0,g1,g2,g3⟩,g4,g5,g6,g7⟩:=hB3.facts;obtain⟨⟨t0,t1,t2,t3⟩,t4,t5,t6,t7⟩:=hT3.facts;have c0:=hR3.c0;have c1:=hR3.c1;have f1:=hR3.f1;have h2n:¬0<=ix:=by omega
 go_wp2_with fail;go_quiet ((go_at_call 201;go_must(first|exact oN HC.out|exact Calls.quiet_of_same (HC.out _))));go_wp2_with fail;(try simp only[Exit.inBlock,Exit.then])
 refine bodyPost_ret (v:=.tuple #[(⟨3,Tk.arrow,0,K⟩:Tk.Tok).val,.bool true,.int .i64 0]) ?_ rfl ⟨rfl,?_,K+2,?_,λ_=>rfl⟩
 ·rw[fD rfl]
  go_simp;try rfl
 ·refine aG ?_ (by omega) 3 _
  refine aG ?_ (by omega) 2 _;refine aG ?_ (by omega) 1 _;refine aG ?_ (by omega) 0 _;refine aC ?_ (jg _ _ _ _);refine aG ?_ (by omega) 1 _;refine aG ?_ (by omega) 0 _;refine aC ?_ (grown_drewN _ _ _);exact hg3
 ·rw[show((K:Int)+2)=((K+2:Nat):Int)from by simp]
  refine Tk.Rd.other ?_ (by omega) 3 _;refine Tk.Rd.other ?_ (by omega) 2 _;refine Tk.Rd.other ?_ (by omega) 1 _;refine Tk.Rd.other ?_ (by omega) 0 _;refine Tk.Rd.set (k:=K) ?_ (K+2);refine Tk.Rd.other ?_ (by omega) 1 _;refine Tk.Rd.other ?_ (by omega) 0 _;refine Tk.Rd.drewN ?_ _;exact hR3
theorem OT(s:ByteArray)(hs:s.size<=65536)(b k K:Nat)(hk:k<=s.size)(hK:Tk.aP false s k=K)(hKs:K<s.size)(hL:Tk.cZ s[K].toNat=false)(hD:Tk.isDigit s[K].toNat=false)(hS:Tk.kG s[K].toNat=false)(hA:¬(s[K].toNat=45/\K+1<s.size/\Tk.byte s (K+1)=62))(w:World)(h:Tk.Rd w b s k) :
  Calls Tryz.prog 161 #[.pointer (some ⟨b,0,none⟩)] w (Tk.Next s k b w ⟨0,Tk.empty,0,K⟩ false 110 K):=by
 have hx:s[K].toNat<256:=s[K].toNat_lt;have HK:=hid hK;have HL:=hid hL;clear hK hL;have hlt:=h.lt;have hKi:(K:Int)<(s.size:Int):=by omega
 have tK:((K:Int)==(s.size:Int))=false:=by simp;omega
 have HD:=hid hD;clear hD;have h0:=hid (jF (Tryz.strings_IndexByte Tk.signs s[K].toNat) (v':=.int .i64 (Lib.indexByte [123,125,40,41,59,58,44,46] s[K].toNat.toUInt8)) rfl);have h1:=Tk.EZ s[K].toNat hx;have hp:=(Tk.Bj hKs).trans (decide_eq_false hA);have HC:=hid (jF (Tryz.strings_HasPrefix (s.extract K s.size) ⟨#[45,62]⟩) (v':=.bool false) (by rw[Tk.lu,hp]));clear hp;have h2:Lib.indexByte [123,125,40,41,59,58,44,46] s[K].toNat.toUInt8<0:=by
  have:=mt h1.2 (by rw[hS];simp);omega
 clear h1 hS;clear hA;go_enter Tryz.func161,Tryz.ntmps161;go_wp2_with fail;refine(nP s (by unfold maxLen;omega) b k hk _ (h.below (((Below.refl _ _).alloc (xB _) _)))).mono ?_;rintro e w1⟨rfl,hg1,hR⟩;rw[HK.out]at hR;have hB:=(Tk.Blk.new w _ _ _ _).grown hg1 (by intro e;cases e;omega);have hz1:w.heap.size+1<=w1.heap.size:=by have:=hg1.size;simp at this;omega
 have c0:=hR.c0;have c1:=hR.c1;go_wp2_with fail;go_quiet (fail);clear c0 c1;replace hg1:=aC (World.grownBy_alloc _ _ _) (aC hg1 (grown_drewN _ nq _));replace hB:=hB.grown (grown_drewN _ nq none) (by simp);replace hR:=hR.drewN nq;have hz1':w.heap.size+1<=(w1.drewN nq).heap.size:=hz1;clear hz1;generalize w1.drewN nq=w2 at hg1 hB hR hz1' ⊢;have hbl:=hR.lt;have c0:=hR.c0;have c1:=hR.c1;go_wp2_with fail;go_quiet (fail);go_wp2_with fail;refine(gQ _ hx _).mono ?_;rintro e w3⟨rfl,rfl⟩;rw[HL.out];have hg3:w.grownBy ((w2.alloc (.cells #[.int .u8 0,.string ⟨#[]⟩,.int .i64 0,.int .i64 K] 171)).drewN nq) (some b):=aC (aC hg1 (World.grownBy_alloc _ _ _)) (grown_drewN _ _ _);have hB3:=(hB.grown (World.grownBy_alloc w2 (.cells #[.int .u8 0,.string ⟨#[]⟩,.int .i64 0,.int .i64 K] 171) none) (by simp)).grown (grown_drewN _ nq none) (by simp);have hT3:=(Tk.Blk.new w2 (.int .u8 0) (.string ⟨#[]⟩) (.int .i64 0) (.int .i64 K)).grown (grown_drewN _ nq none) (by simp);have hR3:=(hR.alloc (.cells #[.int .u8 0,.string ⟨#[]⟩,.int .i64 0,.int .i64 K] 171)).drewN nq;clear c0 c1 hg1 hB hR;generalize((w2.alloc (.cells #[.int .u8 0,.string ⟨#[]⟩,.int .i64 0,.int .i64 K] 171)).drewN nq)=w3 at hg3 hB3 hT3 hR3 ⊢;have hz2:w.heap.size<w2.heap.size:=by omega
 have hz3:=hT3.lt;go_wp2_with fail;refine(kS _ hx _).mono ?_;rintro e w4⟨rfl,rfl⟩;rw[HD.out];go_wp2_with fail;refine(h0.out _).mono ?_;rintro e w4⟨rfl,hw4⟩;subst hw4;generalize Lib.indexByte [123,125,40,41,59,58,44,46] s[K].toNat.toUInt8=ix at h2 ⊢;obtain⟨⟨g0,g1,g2,g3⟩,g4,g5,g6,g7⟩:=hB3.facts;obtain⟨⟨t0,t1,t2,t3⟩,t4,t5,t6,t7⟩:=hT3.facts;have c0:=hR3.c0;have c1:=hR3.c1;have f1:=hR3.f1;have h2n:¬0<=ix:=by omega
 go_wp2_with fail;go_quiet ((go_at_call 201;go_must(first|exact oN HC.out|exact Calls.quiet_of_same (HC.out _))));go_wp2_with fail;(try simp only[Exit.inBlock,Exit.then])
 refine bodyPost_ret (v:=.tuple #[(⟨0,Tk.empty,0,K⟩:Tk.Tok).val,.bool false,.int .i64 110]) ?_ rfl ⟨rfl,?_,K,?_,λ_=>rfl⟩
 ·rw[fD rfl]
  go_simp;try rfl
 ·refine aG ?_ (by omega) 3 _
  refine aG ?_ (by omega) 2 _;refine aG ?_ (by omega) 1 _;refine aG ?_ (by omega) 0 _;refine aC ?_ (grown_drewN _ _ _);exact hg3
 ·refine Tk.Rd.other ?_ (by omega) 3 _
  refine Tk.Rd.other ?_ (by omega) 2 _;refine Tk.Rd.other ?_ (by omega) 1 _;refine Tk.Rd.other ?_ (by omega) 0 _;refine Tk.Rd.drewN ?_ _;exact hR3
theorem next_any(s:ByteArray)(hs:s.size<=65536)(b k K:Nat)(hk:k<=s.size)(hK:Tk.aP false s k=K)(hKs:K<s.size)(w:World)(h:Tk.Rd w b s k) :
  Calls Tryz.prog 161 #[.pointer (some ⟨b,0,none⟩)] w λe w' =>
   e=.returned (.tuple #[(Tk.aH 0 s K).1.val,.bool (decide ((Tk.aH 0 s K).2=0)),.int .i64 (Tk.aH 0 s K).2])/\w.grownBy w' (some b)/\∃ k',Tk.Rd w' b s k'/\((Tk.aH 0 s K).2=0->k'=K+(Tk.aH 0 s K).1.text.size):=by
 have hB:=Tk.jL hKs;cases hL:Tk.cZ s[K].toNat
 ·cases hD:Tk.isDigit s[K].toNat
  ·cases hS:Tk.kG s[K].toNat
   ·by_cases hA:s[K].toNat=45/\K+1<s.size/\Tk.byte s (K+1)=62
    ·have e:Tk.aH 0 s K=(⟨3,Tk.arrow,0,K⟩,0):=by unfold Tk.aH;rw[hB,hL,hD,hS];simp[hA]
     rw[e];exact(OU s hs b k K hk hK hKs hL hD hS hA w h).mono λ_ _ h=>h
    ·have e:Tk.aH 0 s K=(⟨0,Tk.empty,0,K⟩,110):=by unfold Tk.aH;rw[hB,hL,hD,hS];simp[hA]
     rw[e];exact(OT s hs b k K hk hK hKs hL hD hS hA w h).mono λ_ _ ⟨h1,h2,k',h3,_⟩=>⟨h1,h2,k',h3,λe=>by cases e⟩
   ·have e:Tk.aH 0 s K=(⟨3,s.extract K (K+1),0,K⟩,0):=by unfold Tk.aH;rw[hB,hL,hD,hS];simp
    rw[e];exact(RP s hs b k K hk hK hKs hL hD hS w h).mono λ_ _ ⟨h1,h2,k',h3,h4⟩=>⟨h1,h2,k',h3,λe=>by rw[h4 e];simp;omega⟩
  ·have hge:=Tk.ku Tk.isDigit s (K+1)
   have hle:=Tk.jf (p:=Tk.isDigit) (s:=s) (k:=K+1) (by omega);by_cases h9:9<Tk.aX Tk.isDigit s (K+1) - K
   ·have e:Tk.aH 0 s K=(⟨2,s.extract K (Tk.aX Tk.isDigit s (K+1)),0,K⟩,3):=by unfold Tk.aH;rw[hB,hL,hD];simp[h9]
    rw[e];exact(RQ s hs b k K hk hK hKs hL hD _ rfl h9 w h).mono λ_ _ ⟨h1,h2,k',h3,_⟩=>⟨h1,h2,k',h3,λe=>by cases e⟩
   ·by_cases hn:s[K].toNat=48/\1<Tk.aX Tk.isDigit s (K+1) - K
    ·have e:Tk.aH 0 s K=(⟨2,s.extract K (Tk.aX Tk.isDigit s (K+1)),0,K⟩,110):=by unfold Tk.aH;rw[hB,hL,hD];simp[h9,hn]
     rw[e];exact(LW s hs b k K hk hK hKs hL hD _ rfl h9 hn.1 hn.2 w h).mono λ_ _ ⟨h1,h2,k',h3,_⟩=>⟨h1,h2,k',h3,λe=>by cases e⟩
    ·have e:Tk.aH 0 s K=(⟨2,s.extract K (Tk.aX Tk.isDigit s (K+1)),Tk.num s K (Tk.aX Tk.isDigit s (K+1)),K⟩,0):=by
      unfold Tk.aH;rw[hB,hL,hD];simp only[Bool.false_eq_true,if_false,if_true];rw[if_neg h9,if_neg hn]
     rw[e];exact(LV s hs b k K hk hK hKs hL hD _ rfl h9 hn w h).mono λ_ _ ⟨h1,h2,k',h3,h4⟩=>⟨h1,h2,k',h3,λe=>by rw[h4 e];simp;omega⟩
 ·have hge:=Tk.ku Tk.aW s (K+1)
  have hle:=Tk.jf (p:=Tk.aW) (s:=s) (k:=K+1) (by omega);have e:Tk.aH 0 s K=(⟨1,s.extract K (Tk.aX Tk.aW s (K+1)),0,K⟩,Tk.over 32 (Tk.aX Tk.aW s (K+1) - K)):=by unfold Tk.aH;rw[hB,hL];rfl
  rw[e];have hd:decide (Tk.over 32 (Tk.aX Tk.aW s (K+1) - K)=0)=decide (Tk.aX Tk.aW s (K+1) - K<=32):=by
   unfold Tk.over;by_cases h32:32<Tk.aX Tk.aW s (K+1) - K
   ·rw[if_pos h32,decide_eq_false (by omega),decide_eq_false (by omega)]
   ·rw[if_neg h32,decide_eq_true rfl,decide_eq_true (by omega)]
  exact(RN s hs b k K hk hK hKs hL _ _ ⟨rfl,rfl⟩ w h).mono λ_ _ ⟨h1,h2,k',h3,h4⟩=>⟨by rw[h1,hd],h2,k',h3,λe=>by rw[h4 e];simp;omega⟩
namespace Tk
theorem wP(s:ByteArray)(k:Nat):(aH 0 s k).2=(aH 3 s k).2/\(aH 0 s k).1.at_=k/\((aH 0 s k).2=0->aH 0 s k=aH 3 s k):=by
 unfold aH;split
 ·exact⟨rfl,rfl,λ_=>rfl⟩
 ·split
  ·dsimp only
   split
   ·exact⟨rfl,rfl,λ_=>rfl⟩
   ·split
    ·exact⟨rfl,rfl,λ_=>rfl⟩
    ·exact⟨rfl,rfl,λ_=>rfl⟩
  ·split
   ·exact⟨rfl,rfl,λ_=>rfl⟩
   ·split
    ·exact⟨rfl,rfl,λ_=>rfl⟩
    ·exact⟨rfl,rfl,λe=>by cases e⟩
theorem QO{s:ByteArray}{k f:Nat}{acc:List Tok}(h:k<s.size)(he:(aH 0 s k).2≠0):scan 3 s (f+1) k acc=([],k,(aH 0 s k).2):=by
 have:=(wP s k).1;rw[scan,if_pos h,if_pos (by rw[<-this];exact he),this]
theorem TV{s:ByteArray}{k f:Nat}{acc:List Tok}(h:k<s.size)(he:(aH 0 s k).2=0):scan 3 s (f+1) k acc=scan 3 s f (aP false s (k+(aH 0 s k).1.text.size)) (acc++[(aH 0 s k).1]):=by
 have:=(wP s k).2.2 he;rw[scan,if_pos h,if_neg (by rw[<-this];simpa using he),<-this]
theorem iY{s:ByteArray}{k f d:Nat}{acc:List Tok}(h:¬k<s.size):scan d s f k acc=(acc,0,0):=by
 cases f with
 |zero=>rfl
 |succ f=>rw[scan,if_neg h]
theorem Ub{w:World}{base base':Nat}{e:TypeId}{size:Nat}{v:Value}{n:Nat}{xs:List Value}(h:w.ownsRow base e size v n xs)(hb:base'<=base):w.ownsRow base' e size v n xs:=by
 refine⟨h.1,?_⟩;rcases h.2 with hn|⟨g,cap,cur,rfl,hbs,rest⟩
 ·exact .inl hn
 ·exact .inr ⟨g,cap,cur,rfl,by omega,rest⟩
theorem Bd{w:World}{b:Nat}{e:TypeId}{size:Nat}{v:Value}{n:Nat}{xs:List Value}(h:w.ownsRow (b+1) e size v n xs):some b≠v.ownBlock:=by
 intro e;have:=h.lt _ e.symm;omega
end Tk
theorem XH(s:ByteArray)(hs:s.size<=maxLen)(w:World) :
  Calls Tryz.prog 93 #[.string s] w λe w'=>∃ v,e=.returned (.tuple #[v,.int .i64 (Tk.all s).2.1,.int .i64 (Tk.all s).2.2])/\Below w.heap.size w w'/\w'.ownsRow w.heap.size 171 4 v (Tk.all s).1.length (Tk.flat (Tk.all s).1):=by
 have hs2:=hs;unfold maxLen at hs;by_cases hbig:65536<s.size
 ·have HO:Hid (Tk.all s=([],0,3)):=hid (by unfold Tk.all;rw[if_pos hbig])
  go_enter Tryz.func93,Tryz.ntmps93;go_wp2_with fail;go_ret3;exact⟨_,by rw[HO.out];rfl,Below.refl _ _,by rw[HO.out];exact⟨rfl,.inl ⟨rfl,rfl⟩⟩⟩
 ·have HO:Hid (Tk.all s=Tk.scan 3 s (s.size+1) (Tk.aP false s 0) []):=hid (by unfold Tk.all;rw[if_neg hbig])
  go_enter Tryz.func93,Tryz.ntmps93;go_wp2_with fail;go_loopg [2] (s.size+1) (λn l wr=>∃(k:Nat)(acc:List Tk.Tok)(lv:Value),k<=s.size/\s.size+1<=n+k/\acc.length<=k/\lv=l/\Tk.Rd wr w.heap.size s k/\Hid (Tk.all s=Tk.scan 3 s n (Tk.aP false s k) acc)/\Hid (wr.ownsRow (w.heap.size+1) 171 4 lv acc.length (Tk.flat acc))/\Below w.heap.size w wr)
  case atStart=>exact⟨0,[],.slice none 0 0,by omega,by omega,by simp,rfl,heap_alloc_new w _,HO,hid ⟨rfl,.inl ⟨rfl,rfl⟩⟩,(Below.refl _ _).alloc (xB _) _⟩
  case round =>
   obtain⟨k,acc,lv,hk,hnk,ha,rfl,hR,HA,HR,hb⟩:=hrel;have hbz:=hb.size;have hlt:=hR.lt;have ZU:=Tk.qA (s:=s) (k:=k) false hk;have ZV:=Tk.lF false s k;by_cases hend:Tk.aP false s k<s.size
   ·generalize hK:Tk.aP false s k=K at hend ZU ZV HA
    have hone:=Tk.nV (d:=0) (s:=s) (k:=K) hend;have hat:=(Tk.wP s K).2.1;obtain⟨f,rfl⟩:∃ f,gk=f+1:=⟨gk - 1,by omega⟩;by_cases her:(Tk.aH 0 s K).2=0
    ·have hA:=HA.out
     rw[Tk.TV hend her]at hA;obtain⟨hok1,hok2⟩:=hone her;generalize hO:Tk.aH 0 s K=o at hA hok1 hok2 her;obtain⟨⟨tk,tt,tn,ta⟩,er⟩:=o;simp only at hA hok1 hok2 her;subst her;have HNX:=hid (next_any s (by omega) w.heap.size k K hk hK hend wr hR);rw[hO]at HNX;have HE:=hid hA;clear hA hone hat hK hO;go_wp2_with fail;refine(HNX.out).mono ?_;rintro e w1⟨rfl,hg1,k',hR1,hk'⟩;obtain rfl:k'=K+tt.size:=hk' trivial;clear hk';simp only[Tk.Tok.val];have hz1:=hg1.size;have EK:=HR.out.kept hg1 (by have:=Tk.Bd HR.out;exact .inr (λe=>this e.symm));have HRD:Hid (((w1.alloc (.cells #[.int .u8 tk,.string tt,.int .i64 tn,.int .i64 ta] 171)).ownsRow (w.heap.size+1) 171 4 lv acc.length (Tk.flat acc))/\(some w1.heap.size≠lv.ownBlock)/\some w.heap.size≠lv.ownBlock):=by
      refine hid ⟨EK.alloc _,λe=>?_,Tk.Bd HR.out⟩;have:=EK.lt _ e.symm;omega
     clear EK;have hR2:=hR1.alloc (.cells #[.int .u8 tk,.string tt,.int .i64 tn,.int .i64 ta] 171);go_wp2_with(at_builtin;go_must(refine sG rfl _ _ _ rfl (w.heap.size+1) 171 _ _ Tryz.underlying165 JF rfl lv acc.length _ rfl HRD.out.1 _ _ _ _ _ rfl (by simp) (by simp[Value.oneCell']) (by simp only[maxLen];omega) (by omega) (by simp;omega) ?_);intro v' w2 hown2 hb2 hg2;have HOW:=hid hown2;clear hown2);have hR3:=(hR2.alloc _).grown hg2 HRD.out.2.2;clear hg2;go_roundg f
     case rel =>
      refine⟨K+tt.size,acc++[⟨tk,tt,tn,ta⟩],v',hok2,by omega,by rw[xI];simp;omega,rfl,hR3,HE,hid (by rw[xI,Tk.G9];exact HOW.out),?_⟩;exact(hb.trans (below_of_grown hg1 (xB _) (.inr hbz))).trans (((Below.refl _ _).alloc (by omega) _).trans (hb2.mono (by omega)))
     case measure=>omega
    ·have hA:=HA.out
     rw[Tk.QO hend her]at hA;have HNX:=hid (next_any s (by omega) w.heap.size k K hk hK hend wr hR);generalize hO:Tk.aH 0 s K=o at hA her HNX hat;obtain⟨⟨tk,tt,tn,ta⟩,er⟩:=o;simp only at hA her hat;subst hat;have HE:=hid hA;have ter:((er:Int)==0)=false:=by simp;omega
     have aa5:decide (er=0)=false:=by simp;omega
     clear hA hone hK hO her;go_wp2_with fail;refine(HNX.out).mono ?_;rintro e w1⟨rfl,hg1,k',hR1,hk'⟩;clear hk';simp only[Tk.Tok.val];go_wp2_with fail;go_quiet (fail);go_wp2_with fail;go_ret3;exact⟨_,by rw[HE.out];rfl,below_drewN ((hb.trans (below_of_grown hg1 (xB _) (.inr hbz))).alloc (by have:=hg1.size;omega) _) _,by rw[HE.out];exact⟨rfl,.inl ⟨rfl,rfl⟩⟩⟩
   ·obtain hK:Tk.aP false s k=s.size:=by omega
    have HE:Hid (Tk.all s=(acc,0,0)):=hid (by rw[HA.out,Tk.iY hend]);have HNX:=hid (U6 s (by omega) w.heap.size k hk hK wr hR);clear hend hK;go_wp2_with fail;refine(HNX.out).mono ?_;rintro e w1⟨rfl,hg1,k',hR1,hk'⟩;clear hk';simp only[Tk.Tok.val];go_wp2_with fail;go_ret3;have EK:=HR.out.kept hg1 (by have:=Tk.Bd HR.out;exact .inr (λe=>this e.symm));exact⟨_,by rw[HE.out];rfl,(hb.trans (below_of_grown hg1 (xB _) (.inr hbz))).alloc (by have:=hg1.size;omega) _,by rw[HE.out];exact Tk.Ub (EK.alloc _) (by omega)⟩
