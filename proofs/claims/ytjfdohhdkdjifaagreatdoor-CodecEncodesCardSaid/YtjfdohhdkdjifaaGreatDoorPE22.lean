/- redressref15.Of (printed by gen_rof.py). No condition but the ones the theorems state. -/
import Derived.Test.YtjfdohhdkdjifaaGreatDoorPE19
set_option linter.unusedVariables false
set_option linter.unusedSimpArgs false
namespace Go.Proofs.YtjfdohhdkdjifaaGreatDoor
open Go.RowKit Go.BigFrame
namespace Vl
open Go.Proofs.YtjfdohhdkdjifaaGreatDoor.Id Go.Proofs.YtjfdohhdkdjifaaGreatDoor.Chk
theorem info_sorts:(Tryz.prog.info? 45).map (fun i=>(i.zero,i.size,i.bytes))=some (some (.slice none 0 0),1,24):=by kernel_rfl
def KidE (w0 w:World) (cs:List Value) (t:List Srt):Prop:=∃ u,cs=[u]∧SortsR w0 none u t
def KidR (w0 w:World) (v:Value) (l:List (List Srt)):Prop:=ERow w (some w0.heap.size) 45 1 (KidE w0) v l
theorem KidR.below {w0 w w':World} {v:Value} {l:List (List Srt)} (h:KidR w0 w v l) (hb:Below w.heap.size w w'):KidR w0 w' v l:=ERow.below h hb (fun _ _ h=>h)
def ROfC (s:Sch) (v:List Node) (sv vs:Value) (k:Nat):Prop:=∀ (tv:Value) (t:List Srt) (a:Nat) (w:World),SchV w none sv s→ValR w none vs v→SortsR w none tv t→okT s t=true→t.length≤12→a≤v.length→v.length - a<k →
 Calls Tryz.prog 136 #[sv,tv,vs,.int .i64 a] w fun e w'=>e=.returned (.tuple #[.int .i64 (docV v (ofF s (some v.length) k t (v.drop a))).1,.int .i64 ((docV v (ofF s (some v.length) k t (v.drop a))).2:Nat)])∧Below w.heap.size w w'
/-- What lies there while a whole is gone over. -/
structure Go5 (w wr:World) (S nd st:Array Value):Prop where
 bel:Below w.heap.size w wr
 sch:Bk wr w.heap.size 28 S
 node:Bk wr (w.heap.size+1) 71 nd
 sort:Bk wr (w.heap.size+2) 44 st
theorem Go5.below {w wr w':World} {S nd st:Array Value} (h:Go5 w wr S nd st) (hb:Below wr.heap.size wr w'):Go5 w w' S nd st :=
 ⟨h.bel.trans (hb.mono h.bel.size),h.sch.below hb h.sch.lt,h.node.below hb h.node.lt,h.sort.below hb h.sort.lt⟩
theorem Go5.base {w wr w':World} {B:Nat} {S nd st:Array Value} (h:Go5 w wr S nd st) (hb:Below B wr w') (hB:w.heap.size+3≤B):Go5 w w' S nd st :=
 ⟨h.bel.trans (hb.mono (by omega)),h.sch.below hb (by omega),h.node.below hb (by omega),h.sort.below hb (by omega)⟩
theorem docV_none (v:List Node):docV v none=(-1,0):=rfl
theorem docV_some {v r:List Node} {d a:Nat} (ha:a≤v.length) (h:r=v.drop a):docV v (some (d,r))=((a:Int),d):=by
 subst h
 show ((v.length:Int) - ((v.drop a).length:Int),d)=_
 rw [List.length_drop]
 congr 1
 omega
theorem wrap_some {lim k:Nat} {t:List Srt} {n:Node} {d:Nat} (h1:n.kind=k) (h2:n.int=0) (h3:n.text.toList.isEmpty=true) (h4:n.kids=d) (h5:d≤wlim lim k):kidsWrap lim k t n=some (List.replicate d t):=by
 unfold kidsWrap
 rw [if_pos ⟨h1,h2,h3,by omega,by omega⟩,h4,Int.toNat_natCast]
end Vl
set_option maxRecDepth 100000 in
set_option maxHeartbeats 16000000 in
theorem rof_step (s:Id.Sch) (v:List Vl.Node) (sv vs:Value) (k:Nat) (hl:v.length≤100000) (hR:Chk.Right s) (ih:Vl.ROfC s v sv vs k):Vl.ROfC s v sv vs (k+1):=by
 intro tv t a w hsv hvs hs ht h12 ha hlen
 obtain ⟨⟨xk,xn⟩,t,rfl⟩:∃ x l,t=x::l:=List.exists_cons_of_ne_nil (Vl.okT_ne ht)
 obtain ⟨R,HR⟩:∃ R,Hid (Vl.ofF s (some v.length) (k+1) (⟨xk,xn⟩::t) (v.drop a)=R):=⟨_,Lib.hid rfl⟩
 rw [HR.out]
 have HSV:=Lib.hid hsv
 have HV:=Lib.hid hvs
 have HIH:=Lib.hid ih
 have HS:=Lib.hid hs
 have HTT:=Lib.hid ht
 have HRR:=Lib.hid hR
 have HKN:=Lib.hid (Vl.okT_kind ht)
 obtain ⟨A9,N9,C9,rfl⟩:=ERow.is hvs
 have HN9:Hid (N9=v.length):=Lib.hid (by obtain ⟨_,_,e,_⟩:=ERow.slice hvs;injection e)
 have hN9:N9≤100000:=by rw [HN9.out];exact hl
 have haN:a≤N9:=by rw [HN9.out];exact ha
 obtain ⟨A1,n1s,c1,A2,n2s,c2,A3,n3s,c3,rfl,-,-,-⟩:=hsv
 obtain ⟨A,n,c,rfl⟩:=ERow.is hs
 have hn:n=t.length+1:=by obtain ⟨_,_,e,_⟩:=ERow.slice hs;injection e
 have hnm:n≤12:=by rw [hn];simpa using h12
 have hcn:n≤c:=by obtain ⟨_,_,e,h,_⟩:=ERow.slice hs;injection e with _ e2 e3;rw [e3,e2];exact h
 have hcm:c≤9223372036854775807:=by obtain ⟨_,_,e,_,h,_⟩:=ERow.slice hs;injection e with _ _ e3;omega
 obtain ⟨g7,off7,cs,rfl,-,e1,hc⟩:=ERow.get hs (i:=0) (by simp) (by omega)
 unfold Id.SortE Id.Srt.cells at e1
 simp only [List.getElem_cons_zero] at e1
 subst e1
 have a0:=hc 0 _ rfl
 have a1:=hc 1 _ rfl
 simp only [Nat.zero_mul,Nat.add_zero] at a0 a1
 have hg7:g7<w.heap.size:=World.block_lt_of_cell? w _ a0
 have hn0:(0:Int)<(n:Int):=by omega
 have hn1:0<n:=by omega
 have ia0:(0:Int)≤(a:Int):=by omega
 have HLT:Hid (n=t.length+1):=Lib.hid hn
 clear hvs ih hs hc ht hR hn h12 ha
 go_enter Tryz.func136,Tryz.ntmps136
 go_upto_region 1 with (fail)
 refine wp_named (fun V hV=>?_)
 obtain ⟨hb1,hq1,hz1⟩:=fresh_box hV
 clear hV
 have HB1:=Lib.hid hb1
 have HQ1:=Lib.hid hq1
 clear hb1 hq1
 by_cases hlt:a<N9
 case neg =>
  have HX:Hid (R=none):=Lib.hid (by rw [←HR.out,List.drop_of_length_le (by rw [←HN9.out];omega)];rfl)
  have t0:(N9:Int)≤(a:Int):=by omega
  go_wp2_with fail
  go_ret2
  exact ⟨by rw [HX.out];rfl,HB1.out⟩
 have t0:¬(N9:Int)≤(a:Int):=by omega
 have t0n:¬N9≤a:=by omega
 have t0i:(a:Int)<(N9:Int):=by omega
 have hka:a<v.length:=by rw [←HN9.out];exact hlt
 obtain ⟨g9,off9,cs9,rfl,-,e9,hc9⟩:=ERow.get HV.out hka (by omega)
 have hD:v.drop a=v[a]::v.drop (a+1):=List.drop_eq_getElem_cons hka
 rw [hD] at HR
 obtain ⟨⟨n0,n1,n2,n3⟩,Hx⟩:∃ y,Hid (v[a]=y):=⟨_,Lib.hid rfl⟩
 rw [Hx.out] at e9 HR
 unfold Vl.NodE Vl.Node.cells at e9
 subst e9
 have d0:=hc9 0 _ rfl
 have d1:=hc9 1 _ rfl
 have d2:=hc9 2 _ rfl
 have d3:=hc9 3 _ rfl
 simp only [Nat.add_zero] at d0
 have hg9:g9<w.heap.size:=World.block_lt_of_cell? w _ d0
 have d0:=(HB1.out.cell hg9).trans d0
 have d1:=(HB1.out.cell hg9).trans d1
 have d2:=(HB1.out.cell hg9).trans d2
 have d3:=(HB1.out.cell hg9).trans d3
 have a0:=(HB1.out.cell hg7).trans a0
 have a1:=(HB1.out.cell hg7).trans a1
 clear hc9 hD Hx
 go_upto_region 4 with (fail)
 refine wp_named (fun V2 hV=>?_)
 obtain ⟨hb2,hq2,hz2⟩:=fresh_box hV
 clear hV
 have HB2:=Lib.hid (HB1.out.trans (hb2.mono HB1.out.size))
 have HQ2:=Lib.hid hq2
 have HS2:=Lib.hid (HQ1.out.below hb2 HQ1.out.lt)
 have a0:=(hb2.cell (show g7<V.heap.size by omega)).trans a0
 have a1:=(hb2.cell (show g7<V.heap.size by omega)).trans a1
 clear hb2 hq2 d0 d1 d2 d3 HB1 HQ1
 go_upto_region 5 with (fail)
 refine wp_named (fun V3 hV=>?_)
 obtain ⟨hb3,hq3,hz3⟩:=fresh_box hV
 clear hV
 have HG:Hid (Vl.Go5 w V3 #[.string s.name,.slice A1 n1s c1,.slice A2 n2s c2,.slice A3 n3s c3] #[.int .u8 n0,.int .i64 n1,.string n2,.int .i64 n3] #[.int .u8 xk,.string xn]):=Lib.hid ⟨HB2.out.trans (hb3.mono HB2.out.size),HS2.out.below hb3 HS2.out.lt,by rw [hz1] at HQ2;exact HQ2.out.below hb3 (by have:=HQ2.out.lt;omega),by rw [hz2,hz1] at hq3;exact hq3⟩
 rw [hz1] at hz2
 rw [hz2] at hz3
 skip
 obtain ⟨⟨d0,d1,d2,d3⟩,-⟩:=HG.out.node.k4
 obtain ⟨⟨b0,b1⟩,-⟩:=HG.out.sort.k2
 clear a0 a1 hb3 hq3 HB2 HQ2 HS2
 have e1:V.heap.size=w.heap.size+1:=hz1
 have e2:V2.heap.size=w.heap.size+2:=hz2
 try simp only [e1,e2]
 clear hz1 hz2 hz3 e1 e2
 by_cases h1:xk=1
 case pos =>
  subst h1
  have HL:Hid ((if Vl.leaf 1 ⟨n0,n1,n2,n3⟩=true then some (1,v.drop (a+1)) else none)=R):=Lib.hid (by rw [←HR.out];rfl)
  clear HR HIH HTT
  by_cases g0:n0=1
  case neg =>
   have HX:Hid (R=none):=Lib.hid (by rw [←HL.out,if_neg];unfold Vl.leaf;rw [show ((⟨n0,n1,n2,n3⟩:Vl.Node).kind==1)=false from beq_eq_false_iff_ne.2 g0];simp)
   have t1:((n0:Int) != 1)=true:=by rw [bne_iff_ne];omega
   have t2:¬(n0:Int)=1:=by omega
   go_wp2_with fail
   go_ret2
   exact ⟨by rw [HX.out];rfl,HG.out.bel⟩
  subst g0
  by_cases g3:n3=0
  case neg =>
   have HX:Hid (R=none):=Lib.hid (by rw [←HL.out,if_neg];unfold Vl.leaf;rw [show ((⟨1,n1,n2,n3⟩:Vl.Node).kids==0)=false from beq_eq_false_iff_ne.2 g3];simp)
   have t1:(n3 != 0)=true:=by rw [bne_iff_ne];omega
   go_wp2_with fail
   go_ret2
   exact ⟨by rw [HX.out];rfl,HG.out.bel⟩
  subst g3
  by_cases g1:n1=0
  case neg =>
   have t1:(n1 != 0)=true:=by rw [bne_iff_ne];omega
   have HX:Hid (R=none):=Lib.hid (by rw [←HL.out,if_neg];unfold Vl.leaf;simp [g1])
   go_wp2_with fail
   go_ret2
   exact ⟨by rw [HX.out];rfl,HG.out.bel⟩
  subst g1
  have HN:Hid (n2.toList.isEmpty=false→R=none):=Lib.hid (fun h=>by rw [←HL.out,if_neg];unfold Vl.leaf;rw [show (⟨1,0,n2,0⟩:Vl.Node).text.toList.isEmpty=false from h];simp)
  cases hte:n2.toList.isEmpty
  case false =>
   have HX:Hid (R=none):=Lib.hid (HN.out hte)
   go_wp2_with fail
   go_ret2
   exact ⟨by rw [HX.out];rfl,HG.out.bel⟩
  have HX:Hid (R=some (1,v.drop (a+1))):=Lib.hid (by rw [←HL.out,if_pos];unfold Vl.leaf;simp [hte])
  go_wp2_with fail
  go_ret2
  exact ⟨by rw [HX.out,Vl.docV_some (a:=a+1) (by rw [←HN9.out];omega) rfl];rfl,HG.out.bel⟩
 by_cases h2:xk=2
 case pos =>
  subst h2
  have HL:Hid ((if Vl.leaf 2 ⟨n0,n1,n2,n3⟩=true then some (1,v.drop (a+1)) else none)=R):=Lib.hid (by rw [←HR.out];rfl)
  clear HR HIH HTT
  by_cases g0:n0=2
  case neg =>
   have HX:Hid (R=none):=Lib.hid (by rw [←HL.out,if_neg];unfold Vl.leaf;rw [show ((⟨n0,n1,n2,n3⟩:Vl.Node).kind==2)=false from beq_eq_false_iff_ne.2 g0];simp)
   have t1:((n0:Int) != 2)=true:=by rw [bne_iff_ne];omega
   have t2:¬(n0:Int)=2:=by omega
   go_wp2_with fail
   go_ret2
   exact ⟨by rw [HX.out];rfl,HG.out.bel⟩
  subst g0
  by_cases g3:n3=0
  case neg =>
   have HX:Hid (R=none):=Lib.hid (by rw [←HL.out,if_neg];unfold Vl.leaf;rw [show ((⟨2,n1,n2,n3⟩:Vl.Node).kids==0)=false from beq_eq_false_iff_ne.2 g3];simp)
   have t1:(n3 != 0)=true:=by rw [bne_iff_ne];omega
   go_wp2_with fail
   go_ret2
   exact ⟨by rw [HX.out];rfl,HG.out.bel⟩
  subst g3
  by_cases g1:n1=0
  case neg =>
   have t1:(n1 != 0)=true:=by rw [bne_iff_ne];omega
   by_cases g2:n1=1
   case neg =>
    have HX:Hid (R=none):=Lib.hid (by rw [←HL.out,if_neg];unfold Vl.leaf;simp [g1,g2])
    have t2:(n1==1)=false:=by rw [beq_eq_false_iff_ne];exact g2
    go_wp2_with fail
    go_ret2
    exact ⟨by rw [HX.out];rfl,HG.out.bel⟩
   subst g2
   have HN:Hid (n2.toList.isEmpty=false→R=none):=Lib.hid (fun h=>by rw [←HL.out,if_neg];unfold Vl.leaf;rw [show (⟨2,1,n2,0⟩:Vl.Node).text.toList.isEmpty=false from h];simp)
   cases hte:n2.toList.isEmpty
   case false =>
    have HX:Hid (R=none):=Lib.hid (HN.out hte)
    go_wp2_with fail
    go_ret2
    exact ⟨by rw [HX.out];rfl,HG.out.bel⟩
   have HX:Hid (R=some (1,v.drop (a+1))):=Lib.hid (by rw [←HL.out,if_pos];unfold Vl.leaf;simp [hte,g1])
   go_wp2_with fail
   go_ret2
   exact ⟨by rw [HX.out,Vl.docV_some (a:=a+1) (by rw [←HN9.out];omega) rfl];rfl,HG.out.bel⟩
  subst g1
  have HN:Hid (n2.toList.isEmpty=false→R=none):=Lib.hid (fun h=>by rw [←HL.out,if_neg];unfold Vl.leaf;rw [show (⟨2,0,n2,0⟩:Vl.Node).text.toList.isEmpty=false from h];simp)
  cases hte:n2.toList.isEmpty
  case false =>
   have HX:Hid (R=none):=Lib.hid (HN.out hte)
   go_wp2_with fail
   go_ret2
   exact ⟨by rw [HX.out];rfl,HG.out.bel⟩
  have HX:Hid (R=some (1,v.drop (a+1))):=Lib.hid (by rw [←HL.out,if_pos];unfold Vl.leaf;simp [hte])
  go_wp2_with fail
  go_ret2
  exact ⟨by rw [HX.out,Vl.docV_some (a:=a+1) (by rw [←HN9.out];omega) rfl];rfl,HG.out.bel⟩
 by_cases h3:xk=3
 case pos =>
  subst h3
  have HL:Hid ((if Vl.leaf 3 ⟨n0,n1,n2,n3⟩=true then some (1,v.drop (a+1)) else none)=R):=Lib.hid (by rw [←HR.out];rfl)
  clear HR HIH HTT
  by_cases g0:n0=3
  case neg =>
   have HX:Hid (R=none):=Lib.hid (by rw [←HL.out,if_neg];unfold Vl.leaf;rw [show ((⟨n0,n1,n2,n3⟩:Vl.Node).kind==3)=false from beq_eq_false_iff_ne.2 g0];simp)
   have t1:((n0:Int) != 3)=true:=by rw [bne_iff_ne];omega
   have t2:¬(n0:Int)=3:=by omega
   go_wp2_with fail
   go_ret2
   exact ⟨by rw [HX.out];rfl,HG.out.bel⟩
  subst g0
  by_cases g3:n3=0
  case neg =>
   have HX:Hid (R=none):=Lib.hid (by rw [←HL.out,if_neg];unfold Vl.leaf;rw [show ((⟨3,n1,n2,n3⟩:Vl.Node).kids==0)=false from beq_eq_false_iff_ne.2 g3];simp)
   have t1:(n3 != 0)=true:=by rw [bne_iff_ne];omega
   go_wp2_with fail
   go_ret2
   exact ⟨by rw [HX.out];rfl,HG.out.bel⟩
  subst g3
  by_cases g1:n1=0
  case neg =>
   have t1:(n1 != 0)=true:=by rw [bne_iff_ne];omega
   have HN:Hid (n2.toList.isEmpty=false→R=none):=Lib.hid (fun h=>by rw [←HL.out,if_neg];unfold Vl.leaf;rw [show (⟨3,n1,n2,0⟩:Vl.Node).text.toList.isEmpty=false from h];simp)
   cases hte:n2.toList.isEmpty
   case false =>
    have HX:Hid (R=none):=Lib.hid (HN.out hte)
    go_wp2_with fail
    go_ret2
    exact ⟨by rw [HX.out];rfl,HG.out.bel⟩
   have HX:Hid (R=some (1,v.drop (a+1))):=Lib.hid (by rw [←HL.out,if_pos];unfold Vl.leaf;simp [hte])
   go_wp2_with fail
   go_ret2
   exact ⟨by rw [HX.out,Vl.docV_some (a:=a+1) (by rw [←HN9.out];omega) rfl];rfl,HG.out.bel⟩
  subst g1
  have HN:Hid (n2.toList.isEmpty=false→R=none):=Lib.hid (fun h=>by rw [←HL.out,if_neg];unfold Vl.leaf;rw [show (⟨3,0,n2,0⟩:Vl.Node).text.toList.isEmpty=false from h];simp)
  cases hte:n2.toList.isEmpty
  case false =>
   have HX:Hid (R=none):=Lib.hid (HN.out hte)
   go_wp2_with fail
   go_ret2
   exact ⟨by rw [HX.out];rfl,HG.out.bel⟩
  have HX:Hid (R=some (1,v.drop (a+1))):=Lib.hid (by rw [←HL.out,if_pos];unfold Vl.leaf;simp [hte])
  go_wp2_with fail
  go_ret2
  exact ⟨by rw [HX.out,Vl.docV_some (a:=a+1) (by rw [←HN9.out];omega) rfl];rfl,HG.out.bel⟩
 by_cases h4:xk=4
 case pos =>
  subst h4
  have HL:Hid ((if Vl.leaf 4 ⟨n0,n1,n2,n3⟩=true then some (1,v.drop (a+1)) else none)=R):=Lib.hid (by rw [←HR.out];rfl)
  clear HR HIH HTT
  by_cases g0:n0=4
  case neg =>
   have HX:Hid (R=none):=Lib.hid (by rw [←HL.out,if_neg];unfold Vl.leaf;rw [show ((⟨n0,n1,n2,n3⟩:Vl.Node).kind==4)=false from beq_eq_false_iff_ne.2 g0];simp)
   have t1:((n0:Int) != 4)=true:=by rw [bne_iff_ne];omega
   have t2:¬(n0:Int)=4:=by omega
   go_wp2_with fail
   go_ret2
   exact ⟨by rw [HX.out];rfl,HG.out.bel⟩
  subst g0
  by_cases g3:n3=0
  case neg =>
   have HX:Hid (R=none):=Lib.hid (by rw [←HL.out,if_neg];unfold Vl.leaf;rw [show ((⟨4,n1,n2,n3⟩:Vl.Node).kids==0)=false from beq_eq_false_iff_ne.2 g3];simp)
   have t1:(n3 != 0)=true:=by rw [bne_iff_ne];omega
   go_wp2_with fail
   go_ret2
   exact ⟨by rw [HX.out];rfl,HG.out.bel⟩
  subst g3
  by_cases g1:n1=0
  case neg =>
   have t1:(n1 != 0)=true:=by rw [bne_iff_ne];omega
   have HX:Hid (R=none):=Lib.hid (by rw [←HL.out,if_neg];unfold Vl.leaf;simp [g1])
   go_wp2_with fail
   go_ret2
   exact ⟨by rw [HX.out];rfl,HG.out.bel⟩
  subst g1
  have HN:Hid (n2.toList.isEmpty=false→True):=Lib.hid (fun h=>by trivial)
  cases hte:n2.toList.isEmpty
  case false =>
   have HX:Hid (R=some (1,v.drop (a+1))):=Lib.hid (by rw [←HL.out,if_pos];unfold Vl.leaf;simp)
   go_wp2_with fail
   go_ret2
   exact ⟨by rw [HX.out,Vl.docV_some (a:=a+1) (by rw [←HN9.out];omega) rfl];rfl,HG.out.bel⟩
  case true =>
   have HX:Hid (R=some (1,v.drop (a+1))):=Lib.hid (by rw [←HL.out,if_pos];unfold Vl.leaf;simp)
   go_wp2_with fail
   go_ret2
   exact ⟨by rw [HX.out,Vl.docV_some (a:=a+1) (by rw [←HN9.out];omega) rfl];rfl,HG.out.bel⟩
 have HST:Hid (Vl.stepK (Vl.kidsOf s v.length ⟨xk,xn⟩ t ⟨n0,n1,n2,n3⟩) (Vl.ofF s (some v.length) k) (v.drop (a+1))=R):=Lib.hid (by rw [←HR.out];(conv=>rhs;unfold Vl.ofF;rw [if_neg (by simp only;omega)]);rfl)
 clear HR
 have hxk:5≤xk:=by rcases HKN.out with h | h | h | h <;> simp only at h <;> omega
 have t4:¬(xk:Int)≤4:=by omega
 have t4n:¬xk≤4:=by omega
 clear h1 h2 h3 h4
 cases hte:n2.toList.isEmpty
 case false =>
  have HX:Hid (R=none):=Lib.hid (by rw [←HST.out];have h:Vl.kidsOf s v.length ⟨xk,xn⟩ t ⟨n0,n1,n2,n3⟩=none:=(by unfold Vl.kidsOf Vl.kidsWrap Vl.kidsRec;simp [hte]);rw [h];rfl)
  go_wp2_with fail
  go_ret2
  exact ⟨by rw [HX.out];rfl,HG.out.bel⟩
 by_cases q5:xk=5
 case pos =>
  subst q5
  have HKS0:Hid (Vl.kidsOf s v.length ⟨5,xn⟩ t ⟨n0,n1,n2,n3⟩=Vl.kidsWrap v.length 5 t ⟨n0,n1,n2,n3⟩):=Lib.hid (by unfold Vl.kidsOf;rw [if_pos (by simp)])
  have HNO:Hid (¬(n0=5∧n1=0∧0≤n3∧n3≤(N9:Int))→R=none):=Lib.hid (fun h=>by rw [←HST.out,HKS0.out];unfold Vl.kidsWrap;rw [if_neg];rfl;rintro ⟨b1,b2,b3,b4,b5⟩;simp only at b1 b2 b4 b5;unfold Vl.wlim at b5;rw [if_neg (by decide),←HN9.out] at b5;exact h ⟨b1,b2,b4,by omega⟩)
  by_cases g0:n0=5
  case neg =>
   have HX:Hid (R=none):=Lib.hid (HNO.out (fun h=>g0 h.1))
   have t5:((n0:Int) != 5)=true:=by rw [bne_iff_ne];omega
   have t6:¬(n0:Int)=5:=by omega
   clear HNO
   go_wp2_with fail
   go_ret2
   exact ⟨by rw [HX.out];rfl,HG.out.bel⟩
  subst g0
  by_cases g1:n1=0
  case neg =>
   have HX:Hid (R=none):=Lib.hid (HNO.out (fun h=>g1 h.2.1))
   have t5:(n1 != 0)=true:=by rw [bne_iff_ne];exact g1
   clear HNO
   go_wp2_with fail
   go_ret2
   exact ⟨by rw [HX.out];rfl,HG.out.bel⟩
  subst g1
  by_cases g3:0≤n3
  case neg =>
   have HX:Hid (R=none):=Lib.hid (HNO.out (fun h=>g3 h.2.2.1))
   have t5:n3<0:=by omega
   clear HNO
   go_wp2_with fail
   go_ret2
   exact ⟨by rw [HX.out];rfl,HG.out.bel⟩
  obtain ⟨d,rfl⟩:∃ d:Nat,n3=d:=⟨n3.toNat,by omega⟩
  have t5:¬(d:Int)<0:=by omega
  by_cases g4:d≤N9
  case neg =>
   have HX:Hid (R=none):=Lib.hid (HNO.out (fun h=>by have:=h.2.2.2;omega))
   have t6:(N9:Int)<(d:Int):=by omega
   clear HNO
   go_wp2_with fail
   go_ret2
   exact ⟨by rw [HX.out];rfl,HG.out.bel⟩
  have t6:¬(N9:Int)<(d:Int):=by omega
  have HKS:Hid (Vl.kidsOf s v.length ⟨5,xn⟩ t ⟨5,0,n2,d⟩=some (List.replicate d t)):=Lib.hid (by rw [HKS0.out];exact Vl.wrap_some rfl rfl hte rfl (by unfold Vl.wlim;rw [if_neg (by omega),←HN9.out];exact g4))
  have HOT:Hid (Chk.okT s t=true):=Lib.hid (Vl.okT_tail HTT.out (by simp))
  have HKOK:Hid (∀ u∈List.replicate d t,Chk.okT s u=true∧u.length≤12):=Lib.hid (fun u hu=>by rw [List.eq_of_mem_replicate hu];exact ⟨HOT.out,by have:=HLT.out;omega⟩)
  have HTL:=Lib.hid (ERow.below (ERow.tail HS.out) HG.out.bel (fun _ _ h=>h))
  have hpos:=List.length_pos_iff.2 (Vl.okT_ne HOT.out)
  have hn2:2≤n:=by have:=HLT.out;omega
  have j1:(1:Int)≤(n:Int):=by omega
  have j2:(1:Int)≤(c:Int):=by omega
  have j3:(n:Int)≤(c:Int):=by omega
  have j4:((n:Int) - 1).toNat=n - 1:=by omega
  have j5:((c:Int) - 1).toNat=c - 1:=by omega
  have j6:¬c=1:=by omega
  have j7:¬n=1:=by omega
  have hv3:w.heap.size+3≤V3.heap.size:=HG.out.sort.lt
  clear HNO hpos HKS0
  go_wp2_with fail
  go_loopw [12,13] (fun l0 iv wr=>∃ (j:Nat) (lv:Value),lv=l0∧j≤d∧iv=.int .i64 j∧Hid (Vl.KidR V3 wr lv (List.replicate j t))∧Hid (Below V3.heap.size V3 wr)) (fun _ iv _=>d - (intOf iv).toNat)
  case atStart=>exact ⟨0,_,rfl,by omega,rfl,Lib.hid (ERow.nil _ _ _ _ _),Lib.hid (Below.refl _ _)⟩
  case round =>
   obtain ⟨j,lv,rfl,hj,rfl,HRW,HBJ⟩:=hrel
   obtain ⟨U,rfl⟩:∃ w',w'=wr:=⟨_,rfl⟩
   skip
   have HGJ:=Lib.hid (HG.out.below HBJ.out)
   clear d0 d1 d2 d3 b0 b1
   obtain ⟨⟨d0,d1,d2,d3⟩,-⟩:=HGJ.out.node.k4
   by_cases hjd:j<d
   case neg =>
    obtain rfl:j=d:=by omega
    have HM:Hid (Vl.up (Vl.manyF (Vl.ofF s (some v.length) k) (List.replicate j t) 0 (v.drop (a+1)))=R):=Lib.hid (by rw [←HST.out,HKS.out];rfl)
    clear HST HKS
    obtain ⟨Q,HQQ⟩:∃ Q,Hid (Vl.manyF (Vl.ofF s (some v.length) k) (List.replicate j t) 0 (v.drop (a+1))=Q):=⟨_,Lib.hid rfl⟩
    rw [HQQ.out] at HM
    obtain ⟨ks,HKE⟩:∃ ks,Hid ((List.replicate j t)=ks):=⟨_,Lib.hid rfl⟩
    rw [HKE.out] at HQQ HKOK HRW
    obtain ⟨m,HMM⟩:∃ m:Nat,Hid (m=ks.length):=⟨_,Lib.hid rfl⟩
    have hmb:m≤100000:=by rw [HMM.out,←HKE.out];rw [List.length_replicate];omega
    clear HKE
    obtain ⟨A6,c6,hlv,-⟩:=ERow.slice HRW.out
    subst hlv
    rw [←HMM.out] at HRW ⊢
    go_wp2_with fail
    try simp only [Int.cast_ofNat_Int]
    go_loopw [17,18,19,20] (fun dv pv iv _ wr=>∃ (j D p:Nat),j≤m∧D≤100000∧a<p∧p≤N9∧dv=.int .i64 D∧pv=.int .i64 p∧iv=.int .i64 j∧Hid (Vl.manyF (Vl.ofF s (some v.length) k) (ks.drop j) D (v.drop p)=Q)∧Hid (Below U.heap.size U wr)) (fun _ _ iv _ _=>m - (intOf iv).toNat)
    case atStart=>exact ⟨0,0,a+1,by omega,by omega,by omega,by omega,rfl,by go_num,rfl,HQQ,Lib.hid (Below.refl _ _)⟩
    case round =>
     obtain ⟨j,D,p,hj,hD,hap,hp,rfl,rfl,rfl,HQ,HB⟩:=hrel
     obtain ⟨Y,rfl⟩:∃ w',w'=wr:=⟨_,rfl⟩
     have HGU:=Lib.hid (HGJ.out.below HB.out)
     have HB0:Hid (Below V3.heap.size V3 Y):=Lib.hid (HBJ.out.trans (HB.out.mono HBJ.out.size))
     by_cases hjm:j<m
     case neg =>
      have HX:Hid (R=some (D+1,v.drop p)):=Lib.hid (by rw [←HM.out,←HQ.out,List.drop_of_length_le (by rw [←HMM.out];omega)];rfl)
      go_wp2_with fail
      go_ret2
      exact ⟨by rw [HX.out,Vl.docV_some (by rw [←HN9.out];exact hp) rfl];try rfl,HGU.out.bel⟩
     have hjk:j<ks.length:=by rw [←HMM.out];exact hjm
     have hij:(j:Int)<(m:Int):=by omega
     have hij0:(0:Int)≤(j:Int):=by omega
     have hd:=HQ.out
     rw [List.drop_eq_getElem_cons hjk] at hd
     obtain ⟨g6,off6,cs6,hA6,-,⟨u6,rfl,hu6⟩,hc6⟩:=ERow.get (HRW.out.below HB.out) hjk (by omega)
     have z6:=hc6 0 _ rfl
     simp only [Nat.mul_one,Nat.add_zero] at z6
     have HCB:Hid (∀ W,Bl Y W→Calls Tryz.prog 136 #[.agg #[.string s.name,.slice A1 n1s c1,.slice A2 n2s c2,.slice A3 n3s c3],u6,.slice (some ⟨g9,off9,none⟩) N9 C9,.int .i64 p] W fun e w'=>e=.returned (.tuple #[.int .i64 (Vl.docV v (Vl.ofF s (some v.length) k ks[j] (v.drop p))).1,.int .i64 ((Vl.docV v (Vl.ofF s (some v.length) k ks[j] (v.drop p))).2:Nat)])∧Bl Y w'):=Lib.hid (fun W hW=>calls_bl hW (HIH.out u6 ks[j] p W (Id.SchV.below (HGU.out.bel.trans (hW.mono HGU.out.bel.size)) HSV.out) (ERow.below HV.out (HGU.out.bel.trans (hW.mono HGU.out.bel.size)) (fun _ _ h=>h)) (ERow.below hu6 (HB0.out.trans (hW.mono HB0.out.size)) (fun _ _ h=>h)) (HKOK.out _ (List.getElem_mem hjk)).1 (HKOK.out _ (List.getElem_mem hjk)).2 (by rw [←HN9.out];exact hp) (by have h9:=HN9.out;omega)))
     clear hc6 hu6
     cases hq:Vl.ofF s (some v.length) k ks[j] (v.drop p) with
     | none =>
      have HX:Hid (R=none):=Lib.hid (by rw [←HM.out,←hd];unfold Vl.manyF;rw [hq];rfl)
      rw [hq,Vl.docV_none] at HCB
      simp only at HCB
      clear hd hq
      subst hA6
      have dS:∀ w',Bl Y w'→Bk w' w.heap.size 28 #[.string s.name,.slice A1 n1s c1,.slice A2 n2s c2,.slice A3 n3s c3]:=fun w' hb=>HGU.out.sch.below hb HGU.out.sch.lt
      have dK:∀ w',Bl Y w'→w'.cell? ⟨g6,off6+j,none⟩=some u6:=fun w' hb=>(hb.cell (World.block_lt_of_cell? Y _ z6)).trans z6
      go_wp2_with fail
      refine wp_region_bl Y (by kernel_rfl) (by kernel_rfl) (Bl.refl _) ?_
      repeat (first | go_big_quiet_step ((intro hb;exact HCB.out _ hb)) | (refine wpQuiet_step (fun K hK=>?_);rw [if_pos (by rfl)];refine quiet_load_row _ _ rfl _ rfl _ _ _ (by assumption) Tryz.underlying28 rfl (by kernel_rfl) ?_;go_simp;refine hK _ ?_;clear hK K) | (refine wpQuiet_step (fun K hK=>?_);rw [if_pos (by rfl)];refine Lst.load_cell _ _ rfl _ rfl _ (by assumption) _ Tryz.underlying45 rfl ?_;go_simp;refine hK _ ?_;clear hK K) | (refine wpQuiet_step (fun K hK=>?_);go_simp;refine ⟨_,fun _ _=>rfl,hK _ ?_⟩;clear hK K))
      refine wpQuiet_nil ?_
      intro U2 hb2
      have HGU2:=Lib.hid (HGU.out.below hb2)
      have HB2:=Lib.hid (HB.out.trans (hb2.mono HB.out.size))
      clear dS dK hb2 z6
      go_wp2_with fail
      go_ret2
      exact ⟨by rw [HX.out];rfl,HGU2.out.bel⟩
     | some pr =>
      obtain ⟨e,r⟩:=pr
      have hln:=Vl.of_len (N:=v.length) k _ _ _ _ (by rw [List.length_drop];omega) hq
      have hdp:=Vl.of_deep k _ _ _ _ hq
      obtain ⟨-,hr0⟩:=Vl.endL_len hln.2.2
      rw [List.length_drop] at hln hdp
      obtain ⟨p2,hp2⟩:∃ p2,p2=v.length - r.length:=⟨_,rfl⟩
      have hr:r=v.drop p2:=by rw [hr0,List.drop_drop,List.length_drop];congr 1;omega
      have hp3:p2≤N9:=by rw [HN9.out];omega
      have hp4:a<p2:=by have:=hln.2.1;omega
      have he2:e≤100000:=by omega
      have HQ2:Hid (Vl.manyF (Vl.ofF s (some v.length) k) (ks.drop (j+1)) (max D e) (v.drop p2)=Q):=Lib.hid (by rw [←hd];conv=>rhs;unfold Vl.manyF;rw [hq];simp only;rw [hr])
      rw [hq,Vl.docV_some (a:=p2) (by rw [←HN9.out];exact hp3) hr] at HCB
      simp only at HCB
      clear hd hq hln hdp hp2 hr hr0
      subst hA6
      have dS:∀ w',Bl Y w'→Bk w' w.heap.size 28 #[.string s.name,.slice A1 n1s c1,.slice A2 n2s c2,.slice A3 n3s c3]:=fun w' hb=>HGU.out.sch.below hb HGU.out.sch.lt
      have dK:∀ w',Bl Y w'→w'.cell? ⟨g6,off6+j,none⟩=some u6:=fun w' hb=>(hb.cell (World.block_lt_of_cell? Y _ z6)).trans z6
      go_wp2_with fail
      refine wp_region_bl Y (by kernel_rfl) (by kernel_rfl) (Bl.refl _) ?_
      repeat (first | go_big_quiet_step ((intro hb;exact HCB.out _ hb)) | (refine wpQuiet_step (fun K hK=>?_);rw [if_pos (by rfl)];refine quiet_load_row _ _ rfl _ rfl _ _ _ (by assumption) Tryz.underlying28 rfl (by kernel_rfl) ?_;go_simp;refine hK _ ?_;clear hK K) | (refine wpQuiet_step (fun K hK=>?_);rw [if_pos (by rfl)];refine Lst.load_cell _ _ rfl _ rfl _ (by assumption) _ Tryz.underlying45 rfl ?_;go_simp;refine hK _ ?_;clear hK K) | (refine wpQuiet_step (fun K hK=>?_);go_simp;refine ⟨_,fun _ _=>rfl,hK _ ?_⟩;clear hK K))
      refine wpQuiet_nil ?_
      intro U2 hb2
      have HGU2:=Lib.hid (HGU.out.below hb2)
      have HB2:=Lib.hid (HB.out.trans (hb2.mono HB.out.size))
      clear dS dK hb2 z6
      have t5:¬(p2:Int)<0:=by omega
      by_cases hde:D<e
      case pos =>
       rw [show max D e=e by omega] at HQ2
       have t6:(D:Int)<(e:Int):=by omega
       go_wp2_with fail
       go_roundw
       case rel=>exact ⟨j+1,e,p2,by omega,he2,hp4,hp3,rfl,rfl,by go_num,HQ2,HB2⟩
       case measure=>simp [intOf] <;> omega
      rw [show max D e=D by omega] at HQ2
      have t6:¬(D:Int)<(e:Int):=by omega
      go_wp2_with fail
      go_roundw
      case rel=>exact ⟨j+1,D,p2,by omega,hD,hp4,hp3,rfl,rfl,by go_num,HQ2,HB2⟩
      case measure=>simp [intOf] <;> omega
   have hij:(j:Int)<(d:Int):=by omega
   go_wp2_with (at_builtin;go_must (refine wpList_append_el rfl _ _ _ rfl V3.heap.size 45 _ 1 24 Tryz.underlying230 Vl.info_sorts rfl (by decide) (Vl.KidE V3) lv (List.replicate j t) rfl HRW.out [.slice (some ⟨g7,off7+2,none⟩) (n - 1) (c - 1)] rfl _ rfl (by first | rfl | simp | omega) (by simp [Value.oneCell']) (by first | (simp only [maxLen,List.length_replicate,List.length_map,List.length_take,List.length_nil];omega) | (simp [maxLen];done) | (simp [maxLen];omega)) (by first | (simp only [List.length_replicate,List.length_map,List.length_take,List.length_nil];omega) | (simp;done) | (simp;omega) | decide) (by have:=HBJ.out.size;omega) ?_);intro v2 U2 hrow2 hb2 ho2;have HR2:=Lib.hid (hrow2 t (fun _ _ h=>h) ⟨_,rfl,HTL.out⟩);have HBB2:=Lib.hid (HBJ.out.trans hb2);clear hrow2 hb2 ho2;skip)
   go_wp2_with fail
   go_roundw
   case rel=>exact ⟨j+1,_,rfl,by omega,by go_num,Lib.hid (by rw [List.replicate_succ'];exact HR2.out),HBB2⟩
   case measure=>simp [intOf];omega
 by_cases q6:xk=6
 case pos =>
  subst q6
  have HKS0:Hid (Vl.kidsOf s v.length ⟨6,xn⟩ t ⟨n0,n1,n2,n3⟩=Vl.kidsWrap v.length 6 t ⟨n0,n1,n2,n3⟩):=Lib.hid (by unfold Vl.kidsOf;rw [if_pos (by simp)])
  have HNO:Hid (¬(n0=6∧n1=0∧0≤n3∧n3≤1)→R=none):=Lib.hid (fun h=>by rw [←HST.out,HKS0.out];unfold Vl.kidsWrap;rw [if_neg];rfl;rintro ⟨b1,b2,b3,b4,b5⟩;simp only at b1 b2 b4 b5;unfold Vl.wlim at b5;rw [if_pos rfl] at b5;exact h ⟨b1,b2,b4,by omega⟩)
  by_cases g0:n0=6
  case neg =>
   have HX:Hid (R=none):=Lib.hid (HNO.out (fun h=>g0 h.1))
   have t5:((n0:Int) != 6)=true:=by rw [bne_iff_ne];omega
   have t6:¬(n0:Int)=6:=by omega
   clear HNO
   go_wp2_with fail
   go_ret2
   exact ⟨by rw [HX.out];rfl,HG.out.bel⟩
  subst g0
  by_cases g1:n1=0
  case neg =>
   have HX:Hid (R=none):=Lib.hid (HNO.out (fun h=>g1 h.2.1))
   have t5:(n1 != 0)=true:=by rw [bne_iff_ne];exact g1
   clear HNO
   go_wp2_with fail
   go_ret2
   exact ⟨by rw [HX.out];rfl,HG.out.bel⟩
  subst g1
  by_cases g3:0≤n3
  case neg =>
   have HX:Hid (R=none):=Lib.hid (HNO.out (fun h=>g3 h.2.2.1))
   have t5:n3<0:=by omega
   clear HNO
   go_wp2_with fail
   go_ret2
   exact ⟨by rw [HX.out];rfl,HG.out.bel⟩
  obtain ⟨d,rfl⟩:∃ d:Nat,n3=d:=⟨n3.toNat,by omega⟩
  have t5:¬(d:Int)<0:=by omega
  by_cases g4:d≤N9
  case neg =>
   have HX:Hid (R=none):=Lib.hid (HNO.out (fun h=>by have:=h.2.2.2;omega))
   have t6:(N9:Int)<(d:Int):=by omega
   clear HNO
   go_wp2_with fail
   go_ret2
   exact ⟨by rw [HX.out];rfl,HG.out.bel⟩
  have t6:¬(N9:Int)<(d:Int):=by omega
  by_cases g5:d≤1
  case neg =>
   have HX:Hid (R=none):=Lib.hid (HNO.out (fun h=>by have:=h.2.2.2;omega))
   have t7:(1:Int)<(d:Int):=by omega
   clear HNO
   go_wp2_with fail
   go_ret2
   exact ⟨by rw [HX.out];rfl,HG.out.bel⟩
  have t7:¬(1:Int)<(d:Int):=by omega
  have t7n:¬1<d:=by omega
  have HKS:Hid (Vl.kidsOf s v.length ⟨6,xn⟩ t ⟨6,0,n2,d⟩=some (List.replicate d t)):=Lib.hid (by rw [HKS0.out];exact Vl.wrap_some rfl rfl hte rfl (by unfold Vl.wlim;rw [if_pos rfl];exact g5))
  have HOT:Hid (Chk.okT s t=true):=Lib.hid (Vl.okT_tail HTT.out (by simp))
  have HKOK:Hid (∀ u∈List.replicate d t,Chk.okT s u=true∧u.length≤12):=Lib.hid (fun u hu=>by rw [List.eq_of_mem_replicate hu];exact ⟨HOT.out,by have:=HLT.out;omega⟩)
  have HTL:=Lib.hid (ERow.below (ERow.tail HS.out) HG.out.bel (fun _ _ h=>h))
  have hpos:=List.length_pos_iff.2 (Vl.okT_ne HOT.out)
  have hn2:2≤n:=by have:=HLT.out;omega
  have j1:(1:Int)≤(n:Int):=by omega
  have j2:(1:Int)≤(c:Int):=by omega
  have j3:(n:Int)≤(c:Int):=by omega
  have j4:((n:Int) - 1).toNat=n - 1:=by omega
  have j5:((c:Int) - 1).toNat=c - 1:=by omega
  have j6:¬c=1:=by omega
  have j7:¬n=1:=by omega
  have hv3:w.heap.size+3≤V3.heap.size:=HG.out.sort.lt
  clear HNO hpos HKS0
  go_wp2_with fail
  go_loopw [12,13] (fun l0 iv wr=>∃ (j:Nat) (lv:Value),lv=l0∧j≤d∧iv=.int .i64 j∧Hid (Vl.KidR V3 wr lv (List.replicate j t))∧Hid (Below V3.heap.size V3 wr)) (fun _ iv _=>d - (intOf iv).toNat)
  case atStart=>exact ⟨0,_,rfl,by omega,rfl,Lib.hid (ERow.nil _ _ _ _ _),Lib.hid (Below.refl _ _)⟩
  case round =>
   obtain ⟨j,lv,rfl,hj,rfl,HRW,HBJ⟩:=hrel
   obtain ⟨U,rfl⟩:∃ w',w'=wr:=⟨_,rfl⟩
   skip
   have HGJ:=Lib.hid (HG.out.below HBJ.out)
   clear d0 d1 d2 d3 b0 b1
   obtain ⟨⟨d0,d1,d2,d3⟩,-⟩:=HGJ.out.node.k4
   by_cases hjd:j<d
   case neg =>
    obtain rfl:j=d:=by omega
    have HM:Hid (Vl.up (Vl.manyF (Vl.ofF s (some v.length) k) (List.replicate j t) 0 (v.drop (a+1)))=R):=Lib.hid (by rw [←HST.out,HKS.out];rfl)
    clear HST HKS
    obtain ⟨Q,HQQ⟩:∃ Q,Hid (Vl.manyF (Vl.ofF s (some v.length) k) (List.replicate j t) 0 (v.drop (a+1))=Q):=⟨_,Lib.hid rfl⟩
    rw [HQQ.out] at HM
    obtain ⟨ks,HKE⟩:∃ ks,Hid ((List.replicate j t)=ks):=⟨_,Lib.hid rfl⟩
    rw [HKE.out] at HQQ HKOK HRW
    obtain ⟨m,HMM⟩:∃ m:Nat,Hid (m=ks.length):=⟨_,Lib.hid rfl⟩
    have hmb:m≤100000:=by rw [HMM.out,←HKE.out];rw [List.length_replicate];omega
    clear HKE
    obtain ⟨A6,c6,hlv,-⟩:=ERow.slice HRW.out
    subst hlv
    rw [←HMM.out] at HRW ⊢
    go_wp2_with fail
    try simp only [Int.cast_ofNat_Int]
    go_loopw [17,18,19,20] (fun dv pv iv _ wr=>∃ (j D p:Nat),j≤m∧D≤100000∧a<p∧p≤N9∧dv=.int .i64 D∧pv=.int .i64 p∧iv=.int .i64 j∧Hid (Vl.manyF (Vl.ofF s (some v.length) k) (ks.drop j) D (v.drop p)=Q)∧Hid (Below U.heap.size U wr)) (fun _ _ iv _ _=>m - (intOf iv).toNat)
    case atStart=>exact ⟨0,0,a+1,by omega,by omega,by omega,by omega,rfl,by go_num,rfl,HQQ,Lib.hid (Below.refl _ _)⟩
    case round =>
     obtain ⟨j,D,p,hj,hD,hap,hp,rfl,rfl,rfl,HQ,HB⟩:=hrel
     obtain ⟨Y,rfl⟩:∃ w',w'=wr:=⟨_,rfl⟩
     have HGU:=Lib.hid (HGJ.out.below HB.out)
     have HB0:Hid (Below V3.heap.size V3 Y):=Lib.hid (HBJ.out.trans (HB.out.mono HBJ.out.size))
     by_cases hjm:j<m
     case neg =>
      have HX:Hid (R=some (D+1,v.drop p)):=Lib.hid (by rw [←HM.out,←HQ.out,List.drop_of_length_le (by rw [←HMM.out];omega)];rfl)
      go_wp2_with fail
      go_ret2
      exact ⟨by rw [HX.out,Vl.docV_some (by rw [←HN9.out];exact hp) rfl];try rfl,HGU.out.bel⟩
     have hjk:j<ks.length:=by rw [←HMM.out];exact hjm
     have hij:(j:Int)<(m:Int):=by omega
     have hij0:(0:Int)≤(j:Int):=by omega
     have hd:=HQ.out
     rw [List.drop_eq_getElem_cons hjk] at hd
     obtain ⟨g6,off6,cs6,hA6,-,⟨u6,rfl,hu6⟩,hc6⟩:=ERow.get (HRW.out.below HB.out) hjk (by omega)
     have z6:=hc6 0 _ rfl
     simp only [Nat.mul_one,Nat.add_zero] at z6
     have HCB:Hid (∀ W,Bl Y W→Calls Tryz.prog 136 #[.agg #[.string s.name,.slice A1 n1s c1,.slice A2 n2s c2,.slice A3 n3s c3],u6,.slice (some ⟨g9,off9,none⟩) N9 C9,.int .i64 p] W fun e w'=>e=.returned (.tuple #[.int .i64 (Vl.docV v (Vl.ofF s (some v.length) k ks[j] (v.drop p))).1,.int .i64 ((Vl.docV v (Vl.ofF s (some v.length) k ks[j] (v.drop p))).2:Nat)])∧Bl Y w'):=Lib.hid (fun W hW=>calls_bl hW (HIH.out u6 ks[j] p W (Id.SchV.below (HGU.out.bel.trans (hW.mono HGU.out.bel.size)) HSV.out) (ERow.below HV.out (HGU.out.bel.trans (hW.mono HGU.out.bel.size)) (fun _ _ h=>h)) (ERow.below hu6 (HB0.out.trans (hW.mono HB0.out.size)) (fun _ _ h=>h)) (HKOK.out _ (List.getElem_mem hjk)).1 (HKOK.out _ (List.getElem_mem hjk)).2 (by rw [←HN9.out];exact hp) (by have h9:=HN9.out;omega)))
     clear hc6 hu6
     cases hq:Vl.ofF s (some v.length) k ks[j] (v.drop p) with
     | none =>
      have HX:Hid (R=none):=Lib.hid (by rw [←HM.out,←hd];unfold Vl.manyF;rw [hq];rfl)
      rw [hq,Vl.docV_none] at HCB
      simp only at HCB
      clear hd hq
      subst hA6
      have dS:∀ w',Bl Y w'→Bk w' w.heap.size 28 #[.string s.name,.slice A1 n1s c1,.slice A2 n2s c2,.slice A3 n3s c3]:=fun w' hb=>HGU.out.sch.below hb HGU.out.sch.lt
      have dK:∀ w',Bl Y w'→w'.cell? ⟨g6,off6+j,none⟩=some u6:=fun w' hb=>(hb.cell (World.block_lt_of_cell? Y _ z6)).trans z6
      go_wp2_with fail
      refine wp_region_bl Y (by kernel_rfl) (by kernel_rfl) (Bl.refl _) ?_
      repeat (first | go_big_quiet_step ((intro hb;exact HCB.out _ hb)) | (refine wpQuiet_step (fun K hK=>?_);rw [if_pos (by rfl)];refine quiet_load_row _ _ rfl _ rfl _ _ _ (by assumption) Tryz.underlying28 rfl (by kernel_rfl) ?_;go_simp;refine hK _ ?_;clear hK K) | (refine wpQuiet_step (fun K hK=>?_);rw [if_pos (by rfl)];refine Lst.load_cell _ _ rfl _ rfl _ (by assumption) _ Tryz.underlying45 rfl ?_;go_simp;refine hK _ ?_;clear hK K) | (refine wpQuiet_step (fun K hK=>?_);go_simp;refine ⟨_,fun _ _=>rfl,hK _ ?_⟩;clear hK K))
      refine wpQuiet_nil ?_
      intro U2 hb2
      have HGU2:=Lib.hid (HGU.out.below hb2)
      have HB2:=Lib.hid (HB.out.trans (hb2.mono HB.out.size))
      clear dS dK hb2 z6
      go_wp2_with fail
      go_ret2
      exact ⟨by rw [HX.out];rfl,HGU2.out.bel⟩
     | some pr =>
      obtain ⟨e,r⟩:=pr
      have hln:=Vl.of_len (N:=v.length) k _ _ _ _ (by rw [List.length_drop];omega) hq
      have hdp:=Vl.of_deep k _ _ _ _ hq
      obtain ⟨-,hr0⟩:=Vl.endL_len hln.2.2
      rw [List.length_drop] at hln hdp
      obtain ⟨p2,hp2⟩:∃ p2,p2=v.length - r.length:=⟨_,rfl⟩
      have hr:r=v.drop p2:=by rw [hr0,List.drop_drop,List.length_drop];congr 1;omega
      have hp3:p2≤N9:=by rw [HN9.out];omega
      have hp4:a<p2:=by have:=hln.2.1;omega
      have he2:e≤100000:=by omega
      have HQ2:Hid (Vl.manyF (Vl.ofF s (some v.length) k) (ks.drop (j+1)) (max D e) (v.drop p2)=Q):=Lib.hid (by rw [←hd];conv=>rhs;unfold Vl.manyF;rw [hq];simp only;rw [hr])
      rw [hq,Vl.docV_some (a:=p2) (by rw [←HN9.out];exact hp3) hr] at HCB
      simp only at HCB
      clear hd hq hln hdp hp2 hr hr0
      subst hA6
      have dS:∀ w',Bl Y w'→Bk w' w.heap.size 28 #[.string s.name,.slice A1 n1s c1,.slice A2 n2s c2,.slice A3 n3s c3]:=fun w' hb=>HGU.out.sch.below hb HGU.out.sch.lt
      have dK:∀ w',Bl Y w'→w'.cell? ⟨g6,off6+j,none⟩=some u6:=fun w' hb=>(hb.cell (World.block_lt_of_cell? Y _ z6)).trans z6
      go_wp2_with fail
      refine wp_region_bl Y (by kernel_rfl) (by kernel_rfl) (Bl.refl _) ?_
      repeat (first | go_big_quiet_step ((intro hb;exact HCB.out _ hb)) | (refine wpQuiet_step (fun K hK=>?_);rw [if_pos (by rfl)];refine quiet_load_row _ _ rfl _ rfl _ _ _ (by assumption) Tryz.underlying28 rfl (by kernel_rfl) ?_;go_simp;refine hK _ ?_;clear hK K) | (refine wpQuiet_step (fun K hK=>?_);rw [if_pos (by rfl)];refine Lst.load_cell _ _ rfl _ rfl _ (by assumption) _ Tryz.underlying45 rfl ?_;go_simp;refine hK _ ?_;clear hK K) | (refine wpQuiet_step (fun K hK=>?_);go_simp;refine ⟨_,fun _ _=>rfl,hK _ ?_⟩;clear hK K))
      refine wpQuiet_nil ?_
      intro U2 hb2
      have HGU2:=Lib.hid (HGU.out.below hb2)
      have HB2:=Lib.hid (HB.out.trans (hb2.mono HB.out.size))
      clear dS dK hb2 z6
      have t5:¬(p2:Int)<0:=by omega
      by_cases hde:D<e
      case pos =>
       rw [show max D e=e by omega] at HQ2
       have t6:(D:Int)<(e:Int):=by omega
       go_wp2_with fail
       go_roundw
       case rel=>exact ⟨j+1,e,p2,by omega,he2,hp4,hp3,rfl,rfl,by go_num,HQ2,HB2⟩
       case measure=>simp [intOf] <;> omega
      rw [show max D e=D by omega] at HQ2
      have t6:¬(D:Int)<(e:Int):=by omega
      go_wp2_with fail
      go_roundw
      case rel=>exact ⟨j+1,D,p2,by omega,hD,hp4,hp3,rfl,rfl,by go_num,HQ2,HB2⟩
      case measure=>simp [intOf] <;> omega
   have hij:(j:Int)<(d:Int):=by omega
   go_wp2_with (at_builtin;go_must (refine wpList_append_el rfl _ _ _ rfl V3.heap.size 45 _ 1 24 Tryz.underlying230 Vl.info_sorts rfl (by decide) (Vl.KidE V3) lv (List.replicate j t) rfl HRW.out [.slice (some ⟨g7,off7+2,none⟩) (n - 1) (c - 1)] rfl _ rfl (by first | rfl | simp | omega) (by simp [Value.oneCell']) (by first | (simp only [maxLen,List.length_replicate,List.length_map,List.length_take,List.length_nil];omega) | (simp [maxLen];done) | (simp [maxLen];omega)) (by first | (simp only [List.length_replicate,List.length_map,List.length_take,List.length_nil];omega) | (simp;done) | (simp;omega) | decide) (by have:=HBJ.out.size;omega) ?_);intro v2 U2 hrow2 hb2 ho2;have HR2:=Lib.hid (hrow2 t (fun _ _ h=>h) ⟨_,rfl,HTL.out⟩);have HBB2:=Lib.hid (HBJ.out.trans hb2);clear hrow2 hb2 ho2;skip)
   go_wp2_with fail
   go_roundw
   case rel=>exact ⟨j+1,_,rfl,by omega,by go_num,Lib.hid (by rw [List.replicate_succ'];exact HR2.out),HBB2⟩
   case measure=>simp [intOf];omega
 have hk7:xk=7∧t=[]∧(Chk.find s xn).isSome=true:=by rcases HKN.out with h | h | h | h <;> simp only at h <;> first | (exfalso;omega) | exact h
 obtain ⟨rfl,rfl,hsm⟩:=hk7
 obtain ⟨⟨rn,rc,rf⟩,hfd⟩:=Option.isSome_iff_exists.1 hsm
 obtain ⟨hrm,-⟩:=Vl.find_name hfd
 have HRM:=Lib.hid hrm
 have hfew:rf.length≤16:=Vl.fields_few HRR.out hrm
 have HFR:Hid (∀ f∈rf,Chk.okT s f.type=true∧f.type.length≤12):=Lib.hid (fun f hf=>Vl.right_okT (Vl.field_right HRR.out hrm hf))
 have HKS0:Hid (Vl.kidsOf s v.length ⟨7,xn⟩ [] ⟨n0,n1,n2,n3⟩=Vl.kidsRec ⟨rn,rc,rf⟩ ⟨n0,n1,n2,n3⟩):=Lib.hid (by unfold Vl.kidsOf;rw [if_neg (by simp),hfd];rfl)
 have HFD:=Lib.hid hfd
 clear hsm hfd hrm q5 q6 HKN HTT
 obtain ⟨⟨s0,s1,s2,s3⟩,-⟩:=HG.out.sch.k4
 go_wp2_with fail
 clear s0 s1 s2 s3
 have h5:=rfind_any _ s xn V3 (Id.SchV.below HG.out.bel HSV.out)
 rw [HFD.out] at h5
 simp only [Option.getD_some,Option.isSome_some] at h5
 refine h5.mono ?_
 rintro e W1 ⟨u5,rfl,hb5,fv,rfl,hfs⟩
 obtain ⟨A5,n5,c5,rfl⟩:=ERow.is hfs
 have HN5:Hid (n5=rf.length):=Lib.hid (by obtain ⟨_,_,e,_⟩:=ERow.slice hfs;injection e)
 have hn5:n5≤16:=by rw [HN5.out];exact hfew
 have HG5:=Lib.hid (HG.out.below hb5)
 have HFS:=Lib.hid hfs
 clear h5 hb5 hfs d0 d1 d2 d3 b0 b1
 go_upto_region 24 with (fail)
 refine wp_named (fun V4 hV=>?_)
 obtain ⟨hb6,hq6,-⟩:=fresh_box hV
 clear hV
 have HG6:=Lib.hid (HG5.out.below hb6)
 have HQ6:=Lib.hid hq6
 have HF6:=Lib.hid (show Id.FldsR V4 none (.slice A5 n5 c5) rf from ERow.below HFS.out hb6 (fun cs x he=>Id.FldE.below hb6 cs x he))
 obtain ⟨⟨d0,d1,d2,d3⟩,-⟩:=HG6.out.node.k4
 obtain ⟨⟨r0,r1,r2⟩,-⟩:=hq6.k3
 have hv3:w.heap.size+3≤V3.heap.size:=HG.out.sort.lt
 have hv4:w.heap.size+3≤V4.heap.size:=HG6.out.sort.lt
 have hw4:W1.heap.size<V4.heap.size:=hq6.lt
 clear hb6 hq6
 cases rc
 case true =>
  have HNO:Hid (¬(n0=8∧n3=1∧0≤n1∧n1<(n5:Int))→R=none):=Lib.hid (fun h=>by rw [←HST.out,HKS0.out];unfold Vl.kidsRec;rw [if_pos rfl,if_neg];rfl;rintro ⟨b1,b2,b3,b4,b5⟩;exact h ⟨b1,b3,b4,by rw [HN5.out];exact b5⟩)
  by_cases g0:n0=8
  case neg =>
   have HX:Hid (R=none):=Lib.hid (HNO.out (fun h=>g0 h.1))
   have t5:((n0:Int) != 8)=true:=by rw [bne_iff_ne];omega
   have t6:¬(n0:Int)=8:=by omega
   clear HNO
   go_wp2_with fail
   go_ret2
   exact ⟨by rw [HX.out];rfl,HG6.out.bel⟩
  subst g0
  by_cases g3:n3=1
  case neg =>
   have HX:Hid (R=none):=Lib.hid (HNO.out (fun h=>g3 h.2.1))
   have t5:(n3 != 1)=true:=by rw [bne_iff_ne];exact g3
   clear HNO
   go_wp2_with fail
   go_ret2
   exact ⟨by rw [HX.out];rfl,HG6.out.bel⟩
  subst g3
  by_cases g1:0≤n1
  case neg =>
   have HX:Hid (R=none):=Lib.hid (HNO.out (fun h=>g1 h.2.2.1))
   have t5:n1<0:=by omega
   clear HNO
   go_wp2_with fail
   go_ret2
   exact ⟨by rw [HX.out];rfl,HG6.out.bel⟩
  obtain ⟨ix,rfl⟩:∃ i:Nat,n1=i:=⟨n1.toNat,by omega⟩
  have t5:¬(ix:Int)<0:=by omega
  by_cases g2:ix<n5
  case neg =>
   have HX:Hid (R=none):=Lib.hid (HNO.out (fun h=>by have:=h.2.2.2;omega))
   have t6:(n5:Int)≤(ix:Int):=by omega
   clear HNO
   go_wp2_with fail
   go_ret2
   exact ⟨by rw [HX.out];rfl,HG6.out.bel⟩
  have t6:¬(n5:Int)≤(ix:Int):=by omega
  have t7:(ix:Int)<(n5:Int):=by omega
  have hix:ix<rf.length:=by rw [←HN5.out];exact g2
  have HKS:Hid (Vl.kidsOf s v.length ⟨7,xn⟩ [] ⟨8,(ix:Int),n2,1⟩=some [rf[ix].type]):=Lib.hid (by rw [HKS0.out];unfold Vl.kidsRec;rw [if_pos rfl,if_pos ⟨rfl,hte,rfl,by simp only;omega,by simp only;omega⟩];simp only [Int.toNat_natCast];rw [List.getD_eq_getElem?_getD,List.getElem?_eq_getElem (by rw [List.length_map];exact hix),Option.getD_some,List.getElem_map])
  have HKOK:Hid (∀ u∈[rf[ix].type],Chk.okT s u=true∧u.length≤12):=Lib.hid (fun u hu=>by rw [List.mem_singleton] at hu;subst hu;exact HFR.out _ (List.getElem_mem hix))
  obtain ⟨g4,off4,cs4,hA5,-,⟨u4,he4,hu4⟩,hc4⟩:=ERow.get HF6.out hix (by omega)
  obtain ⟨A7,n7,c7,hu7⟩:=ERow.is hu4
  subst hu7
  have HU4:=Lib.hid hu4
  subst he4
  have f1:=hc4 1 _ rfl
  clear hc4 hu4
  subst hA5
  have HRW:Hid (Vl.KidR V4 V4 (.slice none 0 0) []):=Lib.hid (ERow.nil _ _ _ _ _)
  have HBJ:Hid (Below V4.heap.size V4 V4):=Lib.hid (Below.refl _ _)
  clear HNO HKS0
  go_wp2_with (at_builtin;go_must (refine wpList_append_el rfl _ _ _ rfl V4.heap.size 45 _ 1 24 Tryz.underlying230 Vl.info_sorts rfl (by decide) (Vl.KidE V4) (.slice none 0 0) [] rfl HRW.out [.slice A7 n7 c7] rfl _ rfl (by first | rfl | simp | omega) (by simp [Value.oneCell']) (by first | (simp only [maxLen,List.length_replicate,List.length_map,List.length_take,List.length_nil];omega) | (simp [maxLen];done) | (simp [maxLen];omega)) (by first | (simp only [List.length_replicate,List.length_map,List.length_take,List.length_nil];omega) | (simp;done) | (simp;omega) | decide) (by have:=HBJ.out.size;omega) ?_);intro v2 U2 hrow2 hb2 ho2;have HR2:=Lib.hid (hrow2 rf[ix].type (fun _ _ h=>h) ⟨_,rfl,HU4.out⟩);have HBB2:=Lib.hid (HBJ.out.trans hb2);clear hrow2 hb2 ho2;skip)
  clear d0 d1 d2 d3 r0 r1 r2 f1
  have HGK:=Lib.hid (HG6.out.below HBB2.out)
  have HRW2:Hid (Vl.KidR V4 U2 v2 [rf[ix].type]):=HR2
  clear HR2
  have HM:Hid (Vl.up (Vl.manyF (Vl.ofF s (some v.length) k) [rf[ix].type] 0 (v.drop (a+1)))=R):=Lib.hid (by rw [←HST.out,HKS.out];rfl)
  clear HST HKS
  obtain ⟨Q,HQQ⟩:∃ Q,Hid (Vl.manyF (Vl.ofF s (some v.length) k) [rf[ix].type] 0 (v.drop (a+1))=Q):=⟨_,Lib.hid rfl⟩
  rw [HQQ.out] at HM
  obtain ⟨ks,HKE⟩:∃ ks,Hid ([rf[ix].type]=ks):=⟨_,Lib.hid rfl⟩
  rw [HKE.out] at HQQ HKOK HRW2
  obtain ⟨m,HMM⟩:∃ m:Nat,Hid (m=ks.length):=⟨_,Lib.hid rfl⟩
  have hmb:m≤100000:=by rw [HMM.out,←HKE.out];simp
  clear HKE
  obtain ⟨A6,c6,hlv,-⟩:=ERow.slice HRW2.out
  subst hlv
  rw [←HMM.out] at HRW2 ⊢
  go_wp2_with fail
  try simp only [Int.cast_ofNat_Int]
  go_loopw [17,18,19,20] (fun dv pv iv _ wr=>∃ (j D p:Nat),j≤m∧D≤100000∧a<p∧p≤N9∧dv=.int .i64 D∧pv=.int .i64 p∧iv=.int .i64 j∧Hid (Vl.manyF (Vl.ofF s (some v.length) k) (ks.drop j) D (v.drop p)=Q)∧Hid (Below U2.heap.size U2 wr)) (fun _ _ iv _ _=>m - (intOf iv).toNat)
  case atStart=>exact ⟨0,0,a+1,by omega,by omega,by omega,by omega,rfl,by go_num,rfl,HQQ,Lib.hid (Below.refl _ _)⟩
  case round =>
   obtain ⟨j,D,p,hj,hD,hap,hp,rfl,rfl,rfl,HQ,HB⟩:=hrel
   obtain ⟨Y,rfl⟩:∃ w',w'=wr:=⟨_,rfl⟩
   have HGU:=Lib.hid (HGK.out.below HB.out)
   have HB0:Hid (Below V4.heap.size V4 Y):=Lib.hid (HBB2.out.trans (HB.out.mono HBB2.out.size))
   by_cases hjm:j<m
   case neg =>
    have HX:Hid (R=some (D+1,v.drop p)):=Lib.hid (by rw [←HM.out,←HQ.out,List.drop_of_length_le (by rw [←HMM.out];omega)];rfl)
    go_wp2_with fail
    go_ret2
    exact ⟨by rw [HX.out,Vl.docV_some (by rw [←HN9.out];exact hp) rfl];try rfl,HGU.out.bel⟩
   have hjk:j<ks.length:=by rw [←HMM.out];exact hjm
   have hij:(j:Int)<(m:Int):=by omega
   have hij0:(0:Int)≤(j:Int):=by omega
   have hd:=HQ.out
   rw [List.drop_eq_getElem_cons hjk] at hd
   obtain ⟨g6,off6,cs6,hA6,-,⟨u6,rfl,hu6⟩,hc6⟩:=ERow.get (HRW2.out.below HB.out) hjk (by omega)
   have z6:=hc6 0 _ rfl
   simp only [Nat.mul_one,Nat.add_zero] at z6
   have HCB:Hid (∀ W,Bl Y W→Calls Tryz.prog 136 #[.agg #[.string s.name,.slice A1 n1s c1,.slice A2 n2s c2,.slice A3 n3s c3],u6,.slice (some ⟨g9,off9,none⟩) N9 C9,.int .i64 p] W fun e w'=>e=.returned (.tuple #[.int .i64 (Vl.docV v (Vl.ofF s (some v.length) k ks[j] (v.drop p))).1,.int .i64 ((Vl.docV v (Vl.ofF s (some v.length) k ks[j] (v.drop p))).2:Nat)])∧Bl Y w'):=Lib.hid (fun W hW=>calls_bl hW (HIH.out u6 ks[j] p W (Id.SchV.below (HGU.out.bel.trans (hW.mono HGU.out.bel.size)) HSV.out) (ERow.below HV.out (HGU.out.bel.trans (hW.mono HGU.out.bel.size)) (fun _ _ h=>h)) (ERow.below hu6 (HB0.out.trans (hW.mono HB0.out.size)) (fun _ _ h=>h)) (HKOK.out _ (List.getElem_mem hjk)).1 (HKOK.out _ (List.getElem_mem hjk)).2 (by rw [←HN9.out];exact hp) (by have h9:=HN9.out;omega)))
   clear hc6 hu6
   cases hq:Vl.ofF s (some v.length) k ks[j] (v.drop p) with
   | none =>
    have HX:Hid (R=none):=Lib.hid (by rw [←HM.out,←hd];unfold Vl.manyF;rw [hq];rfl)
    rw [hq,Vl.docV_none] at HCB
    simp only at HCB
    clear hd hq
    subst hA6
    have dS:∀ w',Bl Y w'→Bk w' w.heap.size 28 #[.string s.name,.slice A1 n1s c1,.slice A2 n2s c2,.slice A3 n3s c3]:=fun w' hb=>HGU.out.sch.below hb HGU.out.sch.lt
    have dK:∀ w',Bl Y w'→w'.cell? ⟨g6,off6+j,none⟩=some u6:=fun w' hb=>(hb.cell (World.block_lt_of_cell? Y _ z6)).trans z6
    go_wp2_with fail
    refine wp_region_bl Y (by kernel_rfl) (by kernel_rfl) (Bl.refl _) ?_
    repeat (first | go_big_quiet_step ((intro hb;exact HCB.out _ hb)) | (refine wpQuiet_step (fun K hK=>?_);rw [if_pos (by rfl)];refine quiet_load_row _ _ rfl _ rfl _ _ _ (by assumption) Tryz.underlying28 rfl (by kernel_rfl) ?_;go_simp;refine hK _ ?_;clear hK K) | (refine wpQuiet_step (fun K hK=>?_);rw [if_pos (by rfl)];refine Lst.load_cell _ _ rfl _ rfl _ (by assumption) _ Tryz.underlying45 rfl ?_;go_simp;refine hK _ ?_;clear hK K) | (refine wpQuiet_step (fun K hK=>?_);go_simp;refine ⟨_,fun _ _=>rfl,hK _ ?_⟩;clear hK K))
    refine wpQuiet_nil ?_
    intro U2 hb2
    have HGU2:=Lib.hid (HGU.out.below hb2)
    have HB2:=Lib.hid (HB.out.trans (hb2.mono HB.out.size))
    clear dS dK hb2 z6
    go_wp2_with fail
    go_ret2
    exact ⟨by rw [HX.out];rfl,HGU2.out.bel⟩
   | some pr =>
    obtain ⟨e,r⟩:=pr
    have hln:=Vl.of_len (N:=v.length) k _ _ _ _ (by rw [List.length_drop];omega) hq
    have hdp:=Vl.of_deep k _ _ _ _ hq
    obtain ⟨-,hr0⟩:=Vl.endL_len hln.2.2
    rw [List.length_drop] at hln hdp
    obtain ⟨p2,hp2⟩:∃ p2,p2=v.length - r.length:=⟨_,rfl⟩
    have hr:r=v.drop p2:=by rw [hr0,List.drop_drop,List.length_drop];congr 1;omega
    have hp3:p2≤N9:=by rw [HN9.out];omega
    have hp4:a<p2:=by have:=hln.2.1;omega
    have he2:e≤100000:=by omega
    have HQ2:Hid (Vl.manyF (Vl.ofF s (some v.length) k) (ks.drop (j+1)) (max D e) (v.drop p2)=Q):=Lib.hid (by rw [←hd];conv=>rhs;unfold Vl.manyF;rw [hq];simp only;rw [hr])
    rw [hq,Vl.docV_some (a:=p2) (by rw [←HN9.out];exact hp3) hr] at HCB
    simp only at HCB
    clear hd hq hln hdp hp2 hr hr0
    subst hA6
    have dS:∀ w',Bl Y w'→Bk w' w.heap.size 28 #[.string s.name,.slice A1 n1s c1,.slice A2 n2s c2,.slice A3 n3s c3]:=fun w' hb=>HGU.out.sch.below hb HGU.out.sch.lt
    have dK:∀ w',Bl Y w'→w'.cell? ⟨g6,off6+j,none⟩=some u6:=fun w' hb=>(hb.cell (World.block_lt_of_cell? Y _ z6)).trans z6
    go_wp2_with fail
    refine wp_region_bl Y (by kernel_rfl) (by kernel_rfl) (Bl.refl _) ?_
    repeat (first | go_big_quiet_step ((intro hb;exact HCB.out _ hb)) | (refine wpQuiet_step (fun K hK=>?_);rw [if_pos (by rfl)];refine quiet_load_row _ _ rfl _ rfl _ _ _ (by assumption) Tryz.underlying28 rfl (by kernel_rfl) ?_;go_simp;refine hK _ ?_;clear hK K) | (refine wpQuiet_step (fun K hK=>?_);rw [if_pos (by rfl)];refine Lst.load_cell _ _ rfl _ rfl _ (by assumption) _ Tryz.underlying45 rfl ?_;go_simp;refine hK _ ?_;clear hK K) | (refine wpQuiet_step (fun K hK=>?_);go_simp;refine ⟨_,fun _ _=>rfl,hK _ ?_⟩;clear hK K))
    refine wpQuiet_nil ?_
    intro U2 hb2
    have HGU2:=Lib.hid (HGU.out.below hb2)
    have HB2:=Lib.hid (HB.out.trans (hb2.mono HB.out.size))
    clear dS dK hb2 z6
    have t5:¬(p2:Int)<0:=by omega
    by_cases hde:D<e
    case pos =>
     rw [show max D e=e by omega] at HQ2
     have t6:(D:Int)<(e:Int):=by omega
     go_wp2_with fail
     go_roundw
     case rel=>exact ⟨j+1,e,p2,by omega,he2,hp4,hp3,rfl,rfl,by go_num,HQ2,HB2⟩
     case measure=>simp [intOf] <;> omega
    rw [show max D e=D by omega] at HQ2
    have t6:¬(D:Int)<(e:Int):=by omega
    go_wp2_with fail
    go_roundw
    case rel=>exact ⟨j+1,D,p2,by omega,hD,hp4,hp3,rfl,rfl,by go_num,HQ2,HB2⟩
    case measure=>simp [intOf] <;> omega
 have HNO:Hid (¬(n0=7∧n1=0∧n3=(n5:Int))→R=none):=Lib.hid (fun h=>by rw [←HST.out,HKS0.out];unfold Vl.kidsRec;rw [if_neg (by simp),if_neg];rfl;rintro ⟨b1,b2,b3,b4⟩;exact h ⟨b1,b2,by rw [HN5.out];exact b4⟩)
 by_cases g0:n0=7
 case neg =>
  have HX:Hid (R=none):=Lib.hid (HNO.out (fun h=>g0 h.1))
  have t5:((n0:Int) != 7)=true:=by rw [bne_iff_ne];omega
  have t6:¬(n0:Int)=7:=by omega
  clear HNO
  go_wp2_with fail
  go_ret2
  exact ⟨by rw [HX.out];rfl,HG6.out.bel⟩
 subst g0
 by_cases g1:n1=0
 case neg =>
  have HX:Hid (R=none):=Lib.hid (HNO.out (fun h=>g1 h.2.1))
  have t5:(n1 != 0)=true:=by rw [bne_iff_ne];exact g1
  clear HNO
  go_wp2_with fail
  go_ret2
  exact ⟨by rw [HX.out];rfl,HG6.out.bel⟩
 subst g1
 by_cases g3:n3=(n5:Int)
 case neg =>
  have HX:Hid (R=none):=Lib.hid (HNO.out (fun h=>g3 h.2.2))
  have t5:(n3 != (n5:Int))=true:=by rw [bne_iff_ne];exact g3
  clear HNO
  go_wp2_with fail
  go_ret2
  exact ⟨by rw [HX.out];rfl,HG6.out.bel⟩
 subst g3
 have HKS:Hid (Vl.kidsOf s v.length ⟨7,xn⟩ [] ⟨7,0,n2,(n5:Int)⟩=some (rf.map (·.type))):=Lib.hid (by rw [HKS0.out];unfold Vl.kidsRec;rw [if_neg (by simp),if_pos ⟨rfl,rfl,hte,by rw [HN5.out]⟩])
 have HKOK:Hid (∀ u∈rf.map (·.type),Chk.okT s u=true∧u.length≤12):=Lib.hid (fun u hu=>by obtain ⟨f,hf,rfl⟩:=List.mem_map.1 hu;exact HFR.out f hf)
 clear HNO HKS0
 go_wp2_with fail
 try simp only [Int.cast_ofNat_Int]
 go_loopw [12,16] (fun l0 iv wr=>∃ (j:Nat) (lv:Value),lv=l0∧j≤n5∧iv=.int .i64 j∧Hid (Vl.KidR V4 wr lv ((rf.take j).map (fun x:Id.Fld=>x.type)))∧Hid (Below V4.heap.size V4 wr)) (fun _ iv _=>n5 - (intOf iv).toNat)
 case atStart=>exact ⟨0,_,rfl,by omega,rfl,Lib.hid (ERow.nil _ _ _ _ _),Lib.hid (Below.refl _ _)⟩
 case round =>
  obtain ⟨j,lv,rfl,hj,rfl,HRW,HBJ⟩:=hrel
  obtain ⟨U,rfl⟩:∃ w',w'=wr:=⟨_,rfl⟩
  have HGJ:=Lib.hid (HG6.out.below HBJ.out)
  have HQJ:=Lib.hid (HQ6.out.below HBJ.out HQ6.out.lt)
  clear d0 d1 d2 d3 r0 r1 r2
  obtain ⟨⟨r0,r1,r2⟩,-⟩:=HQJ.out.k3
  by_cases hjd:j<n5
  case neg =>
   have HTK:Hid (rf.take j=rf):=Lib.hid (List.take_of_length_le (by rw [←HN5.out];omega))
   rw [HTK.out] at HRW
   have HM:Hid (Vl.up (Vl.manyF (Vl.ofF s (some v.length) k) (rf.map (·.type)) 0 (v.drop (a+1)))=R):=Lib.hid (by rw [←HST.out,HKS.out];rfl)
   clear HST HKS
   obtain ⟨Q,HQQ⟩:∃ Q,Hid (Vl.manyF (Vl.ofF s (some v.length) k) (rf.map (·.type)) 0 (v.drop (a+1))=Q):=⟨_,Lib.hid rfl⟩
   rw [HQQ.out] at HM
   obtain ⟨ks,HKE⟩:∃ ks,Hid ((rf.map (·.type))=ks):=⟨_,Lib.hid rfl⟩
   rw [HKE.out] at HQQ HKOK HRW
   obtain ⟨m,HMM⟩:∃ m:Nat,Hid (m=ks.length):=⟨_,Lib.hid rfl⟩
   have hmb:m≤100000:=by rw [HMM.out,←HKE.out];rw [List.length_map];omega
   clear HKE
   obtain ⟨A6,c6,hlv,-⟩:=ERow.slice HRW.out
   subst hlv
   rw [←HMM.out] at HRW ⊢
   go_wp2_with fail
   try simp only [Int.cast_ofNat_Int]
   go_loopw [17,18,19,20] (fun dv pv iv _ wr=>∃ (j D p:Nat),j≤m∧D≤100000∧a<p∧p≤N9∧dv=.int .i64 D∧pv=.int .i64 p∧iv=.int .i64 j∧Hid (Vl.manyF (Vl.ofF s (some v.length) k) (ks.drop j) D (v.drop p)=Q)∧Hid (Below U.heap.size U wr)) (fun _ _ iv _ _=>m - (intOf iv).toNat)
   case atStart=>exact ⟨0,0,a+1,by omega,by omega,by omega,by omega,rfl,by go_num,rfl,HQQ,Lib.hid (Below.refl _ _)⟩
   case round =>
    obtain ⟨j,D,p,hj,hD,hap,hp,rfl,rfl,rfl,HQ,HB⟩:=hrel
    obtain ⟨Y,rfl⟩:∃ w',w'=wr:=⟨_,rfl⟩
    have HGU:=Lib.hid (HGJ.out.below HB.out)
    have HB0:Hid (Below V4.heap.size V4 Y):=Lib.hid (HBJ.out.trans (HB.out.mono HBJ.out.size))
    by_cases hjm:j<m
    case neg =>
     have HX:Hid (R=some (D+1,v.drop p)):=Lib.hid (by rw [←HM.out,←HQ.out,List.drop_of_length_le (by rw [←HMM.out];omega)];rfl)
     go_wp2_with fail
     go_ret2
     exact ⟨by rw [HX.out,Vl.docV_some (by rw [←HN9.out];exact hp) rfl];try rfl,HGU.out.bel⟩
    have hjk:j<ks.length:=by rw [←HMM.out];exact hjm
    have hij:(j:Int)<(m:Int):=by omega
    have hij0:(0:Int)≤(j:Int):=by omega
    have hd:=HQ.out
    rw [List.drop_eq_getElem_cons hjk] at hd
    obtain ⟨g6,off6,cs6,hA6,-,⟨u6,rfl,hu6⟩,hc6⟩:=ERow.get (HRW.out.below HB.out) hjk (by omega)
    have z6:=hc6 0 _ rfl
    simp only [Nat.mul_one,Nat.add_zero] at z6
    have HCB:Hid (∀ W,Bl Y W→Calls Tryz.prog 136 #[.agg #[.string s.name,.slice A1 n1s c1,.slice A2 n2s c2,.slice A3 n3s c3],u6,.slice (some ⟨g9,off9,none⟩) N9 C9,.int .i64 p] W fun e w'=>e=.returned (.tuple #[.int .i64 (Vl.docV v (Vl.ofF s (some v.length) k ks[j] (v.drop p))).1,.int .i64 ((Vl.docV v (Vl.ofF s (some v.length) k ks[j] (v.drop p))).2:Nat)])∧Bl Y w'):=Lib.hid (fun W hW=>calls_bl hW (HIH.out u6 ks[j] p W (Id.SchV.below (HGU.out.bel.trans (hW.mono HGU.out.bel.size)) HSV.out) (ERow.below HV.out (HGU.out.bel.trans (hW.mono HGU.out.bel.size)) (fun _ _ h=>h)) (ERow.below hu6 (HB0.out.trans (hW.mono HB0.out.size)) (fun _ _ h=>h)) (HKOK.out _ (List.getElem_mem hjk)).1 (HKOK.out _ (List.getElem_mem hjk)).2 (by rw [←HN9.out];exact hp) (by have h9:=HN9.out;omega)))
    clear hc6 hu6
    cases hq:Vl.ofF s (some v.length) k ks[j] (v.drop p) with
    | none =>
     have HX:Hid (R=none):=Lib.hid (by rw [←HM.out,←hd];unfold Vl.manyF;rw [hq];rfl)
     rw [hq,Vl.docV_none] at HCB
     simp only at HCB
     clear hd hq
     subst hA6
     have dS:∀ w',Bl Y w'→Bk w' w.heap.size 28 #[.string s.name,.slice A1 n1s c1,.slice A2 n2s c2,.slice A3 n3s c3]:=fun w' hb=>HGU.out.sch.below hb HGU.out.sch.lt
     have dK:∀ w',Bl Y w'→w'.cell? ⟨g6,off6+j,none⟩=some u6:=fun w' hb=>(hb.cell (World.block_lt_of_cell? Y _ z6)).trans z6
     go_wp2_with fail
     refine wp_region_bl Y (by kernel_rfl) (by kernel_rfl) (Bl.refl _) ?_
     repeat (first | go_big_quiet_step ((intro hb;exact HCB.out _ hb)) | (refine wpQuiet_step (fun K hK=>?_);rw [if_pos (by rfl)];refine quiet_load_row _ _ rfl _ rfl _ _ _ (by assumption) Tryz.underlying28 rfl (by kernel_rfl) ?_;go_simp;refine hK _ ?_;clear hK K) | (refine wpQuiet_step (fun K hK=>?_);rw [if_pos (by rfl)];refine Lst.load_cell _ _ rfl _ rfl _ (by assumption) _ Tryz.underlying45 rfl ?_;go_simp;refine hK _ ?_;clear hK K) | (refine wpQuiet_step (fun K hK=>?_);go_simp;refine ⟨_,fun _ _=>rfl,hK _ ?_⟩;clear hK K))
     refine wpQuiet_nil ?_
     intro U2 hb2
     have HGU2:=Lib.hid (HGU.out.below hb2)
     have HB2:=Lib.hid (HB.out.trans (hb2.mono HB.out.size))
     clear dS dK hb2 z6
     go_wp2_with fail
     go_ret2
     exact ⟨by rw [HX.out];rfl,HGU2.out.bel⟩
    | some pr =>
     obtain ⟨e,r⟩:=pr
     have hln:=Vl.of_len (N:=v.length) k _ _ _ _ (by rw [List.length_drop];omega) hq
     have hdp:=Vl.of_deep k _ _ _ _ hq
     obtain ⟨-,hr0⟩:=Vl.endL_len hln.2.2
     rw [List.length_drop] at hln hdp
     obtain ⟨p2,hp2⟩:∃ p2,p2=v.length - r.length:=⟨_,rfl⟩
     have hr:r=v.drop p2:=by rw [hr0,List.drop_drop,List.length_drop];congr 1;omega
     have hp3:p2≤N9:=by rw [HN9.out];omega
     have hp4:a<p2:=by have:=hln.2.1;omega
     have he2:e≤100000:=by omega
     have HQ2:Hid (Vl.manyF (Vl.ofF s (some v.length) k) (ks.drop (j+1)) (max D e) (v.drop p2)=Q):=Lib.hid (by rw [←hd];conv=>rhs;unfold Vl.manyF;rw [hq];simp only;rw [hr])
     rw [hq,Vl.docV_some (a:=p2) (by rw [←HN9.out];exact hp3) hr] at HCB
     simp only at HCB
     clear hd hq hln hdp hp2 hr hr0
     subst hA6
     have dS:∀ w',Bl Y w'→Bk w' w.heap.size 28 #[.string s.name,.slice A1 n1s c1,.slice A2 n2s c2,.slice A3 n3s c3]:=fun w' hb=>HGU.out.sch.below hb HGU.out.sch.lt
     have dK:∀ w',Bl Y w'→w'.cell? ⟨g6,off6+j,none⟩=some u6:=fun w' hb=>(hb.cell (World.block_lt_of_cell? Y _ z6)).trans z6
     go_wp2_with fail
     refine wp_region_bl Y (by kernel_rfl) (by kernel_rfl) (Bl.refl _) ?_
     repeat (first | go_big_quiet_step ((intro hb;exact HCB.out _ hb)) | (refine wpQuiet_step (fun K hK=>?_);rw [if_pos (by rfl)];refine quiet_load_row _ _ rfl _ rfl _ _ _ (by assumption) Tryz.underlying28 rfl (by kernel_rfl) ?_;go_simp;refine hK _ ?_;clear hK K) | (refine wpQuiet_step (fun K hK=>?_);rw [if_pos (by rfl)];refine Lst.load_cell _ _ rfl _ rfl _ (by assumption) _ Tryz.underlying45 rfl ?_;go_simp;refine hK _ ?_;clear hK K) | (refine wpQuiet_step (fun K hK=>?_);go_simp;refine ⟨_,fun _ _=>rfl,hK _ ?_⟩;clear hK K))
     refine wpQuiet_nil ?_
     intro U2 hb2
     have HGU2:=Lib.hid (HGU.out.below hb2)
     have HB2:=Lib.hid (HB.out.trans (hb2.mono HB.out.size))
     clear dS dK hb2 z6
     have t5:¬(p2:Int)<0:=by omega
     by_cases hde:D<e
     case pos =>
      rw [show max D e=e by omega] at HQ2
      have t6:(D:Int)<(e:Int):=by omega
      go_wp2_with fail
      go_roundw
      case rel=>exact ⟨j+1,e,p2,by omega,he2,hp4,hp3,rfl,rfl,by go_num,HQ2,HB2⟩
      case measure=>simp [intOf] <;> omega
     rw [show max D e=D by omega] at HQ2
     have t6:¬(D:Int)<(e:Int):=by omega
     go_wp2_with fail
     go_roundw
     case rel=>exact ⟨j+1,D,p2,by omega,hD,hp4,hp3,rfl,rfl,by go_num,HQ2,HB2⟩
     case measure=>simp [intOf] <;> omega
  have hij:(j:Int)<(n5:Int):=by omega
  have hij0:(0:Int)≤(j:Int):=by omega
  have hix:j<rf.length:=by rw [←HN5.out];exact hjd
  have HTK:Hid ((rf.take (j+1)).map (·.type)=(rf.take j).map (·.type)++[rf[j].type]):=Lib.hid (by rw [List.take_succ_eq_append_getElem hix,List.map_append];rfl)
  obtain ⟨g4,off4,cs4,hA5,-,⟨u4,he4,hu4⟩,hc4⟩:=ERow.get HF6.out hix (by omega)
  obtain ⟨A7,n7,c7,hu7⟩:=ERow.is hu4
  subst hu7
  have HU4:=Lib.hid hu4
  subst he4
  have f1:=hc4 1 _ rfl
  clear hc4 hu4
  have f1:=(HBJ.out.cell (World.block_lt_of_cell? V4 _ f1)).trans f1
  subst hA5
  go_wp2_with (at_builtin;go_must (refine wpList_append_el rfl _ _ _ rfl V4.heap.size 45 _ 1 24 Tryz.underlying230 Vl.info_sorts rfl (by decide) (Vl.KidE V4) lv ((rf.take j).map (fun x:Id.Fld=>x.type)) rfl HRW.out [.slice A7 n7 c7] rfl _ rfl (by first | rfl | simp | omega) (by simp [Value.oneCell']) (by first | (simp only [maxLen,List.length_replicate,List.length_map,List.length_take,List.length_nil];omega) | (simp [maxLen];done) | (simp [maxLen];omega)) (by first | (simp only [List.length_replicate,List.length_map,List.length_take,List.length_nil];omega) | (simp;done) | (simp;omega) | decide) (by have:=HBJ.out.size;omega) ?_);intro v2 U2 hrow2 hb2 ho2;have HR2:=Lib.hid (hrow2 rf[j].type (fun _ _ h=>h) ⟨_,rfl,HU4.out⟩);have HBB2:=Lib.hid (HBJ.out.trans hb2);clear hrow2 hb2 ho2;skip)
  go_wp2_with fail
  go_roundw
  case rel=>exact ⟨j+1,_,rfl,by omega,by go_num,Lib.hid (by rw [HTK.out];exact HR2.out),HBB2⟩
  case measure=>simp [intOf];omega
theorem rof_any (s:Id.Sch) (v:List Vl.Node) (sv vs:Value) (hl:v.length≤100000) (hR:Chk.Right s):∀ k,Vl.ROfC s v sv vs k
 | 0=>fun tv t a w _ _ _ _ _ _ hlen=>absurd hlen (Nat.not_lt_zero _)
 | k+1=>rof_step s v sv vs k hl hR (rof_any s v sv vs hl hR k)
end Go.Proofs.YtjfdohhdkdjifaaGreatDoor
