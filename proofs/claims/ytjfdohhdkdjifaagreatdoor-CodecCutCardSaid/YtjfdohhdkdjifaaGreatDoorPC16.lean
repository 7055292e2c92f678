/- check, plain: a right schema is right without its last saga, and with its records turned about. No condition. -/
import Derived.Test.YtjfdohhdkdjifaaGreatDoorPC14
import Derived.Test.YtjfdohhdkdjifaaGreatDoorPC15
import Derived.Test.YtjfdohhdkdjifaaGreatDoorPC06
import Derived.Test.YtjfdohhdkdjifaaGreatDoorPC13
import Derived.Test.YtjfdohhdkdjifaaGreatDoorPC03
set_option linter.unusedVariables false
set_option linter.unusedSimpArgs false
namespace Go.Proofs.YtjfdohhdkdjifaaGreatDoor
namespace Chk
open Go.Proofs.YtjfdohhdkdjifaaGreatDoor.Id
def apart (a b:ByteArray):Prop:=(a.toList==b.toList)=false
end Chk
end Go.Proofs.YtjfdohhdkdjifaaGreatDoor
set_option linter.unusedVariables false
set_option linter.unusedSimpArgs false
namespace Go.Proofs.YtjfdohhdkdjifaaGreatDoor
open Go.RowKit Go.BigFrame
/-- Within a law over a schema: its box, what lay there. -/
structure Chk.Lx (w wr:World) (S:Array Value):Prop where
 bel:Below w.heap.size w wr
 box:Bk wr w.heap.size 28 S
theorem Chk.Lx.below {w wr w':World} {S:Array Value} (h:Chk.Lx w wr S) (hb:Below wr.heap.size wr w'):Chk.Lx w w' S:=⟨h.bel.trans (hb.mono h.bel.size),h.box.below hb h.box.lt⟩
theorem Chk.Lx.start {w wr:World} {S:Array Value} (h:wr=w.alloc (.cells S 28)):Chk.Lx w wr S:=by
 subst h
 exact ⟨(Below.refl _ _).alloc (Nat.le_refl _) _,Bk.new _ _ _⟩
theorem Chk.Lx.only {w wr w':World} {S:Array Value} {e:TypeId} (h:Chk.Lx w wr S) (hb:Below w.heap.size wr w') (ho:Only e wr w') (he:28≠e):Chk.Lx w w' S:=⟨h.bel.trans hb,ho.bk h.box he⟩
end Go.Proofs.YtjfdohhdkdjifaaGreatDoor
set_option linter.unusedVariables false
set_option linter.unusedSimpArgs false
namespace Go.Proofs.YtjfdohhdkdjifaaGreatDoor
namespace Chk
open Go.Proofs.YtjfdohhdkdjifaaGreatDoor.Id
/-! Levels. -/
def lvl (rs:List Rec) (l:List Bool) (n:ByteArray):Bool:=match rs,l with
 | r::rs,b::l=>if r.name.toList==n.toList then b else lvl rs l n
 | _,_=>false
def lvT (rs:List Rec) (l:List Bool) (t:List Srt):Bool:=match t with
 | []=>false
 | x::_=>x.kind != 7||lvl rs l x.name
/-! The document's tests. -/
/-! Rule 3 as the document goes through it. -/
def declsP (x:Sch):List (ByteArray × List ByteArray):=x.records.map (fun r=>(r.name,r.fields.map (·.name)))++(x.services.map (fun v=>(v.name,v.methods.map (·.name)))++x.sagas.map (fun g=>(g.name,[])))
def docV (p:ByteArray × Nat):Value:=.tuple #[.string p.1,.int .i64 (p.2:Int)]
end Chk
end Go.Proofs.YtjfdohhdkdjifaaGreatDoor
set_option linter.unusedVariables false
set_option linter.unusedSimpArgs false
namespace Go.Proofs.YtjfdohhdkdjifaaGreatDoor
open Go.RowKit Go.BigFrame
namespace Prn
open Go.Proofs.YtjfdohhdkdjifaaGreatDoor.Id Go.Proofs.YtjfdohhdkdjifaaGreatDoor.Chk
theorem flat_le {α β:Type} {f:α→List β} {l:List α} {m:Nat} (h:∀ a∈l,(f a).length≤m):(l.flatMap f).length≤l.length * m:=by
 induction l with
 | nil=>simp
 | cons a l ih =>
  rw [List.flatMap_cons,List.length_append,List.length_cons,Nat.succ_mul]
  have:=h a (by simp)
  have:=ih (fun b hb=>h b (by simp [hb]))
  omega
theorem jl_le {m:Nat}:∀ {l:List ByteArray},(∀ u∈l,u.size≤m)→(jl l).length≤l.length * (m+1)
 | [],h=>by simp [jl]
 | a::l,h=>by
  have h1:a.data.toList.length≤m:=by have:=h a (by simp);simpa using this
  have h2:(l.flatMap fun u=>32::u.data.toList).length≤l.length * (m+1):=flat_le (fun u hu=>by have:=h u (by simp [hu]);simpa using this)
  show (a.data.toList++_).length≤_
  rw [List.length_append,List.length_cons,Nat.succ_mul]
  omega
theorem jn_size (l:List ByteArray):(jn l).size=(jl l).length:=by simp [jn,ByteArray.size]
/-- A schema's text, or why there is none. -/
noncomputable def text (x:Sch):ByteArray × Nat:=if (check x).2≠0 then (⟨#[]⟩,(check x).2) else if 65536<(jn (schW x)).size then (⟨#[]⟩,3) else (jn (schW x),0)
noncomputable def print (x:Sch):Nat × Nat:=if (text x).2≠0 then (0,(text x).2) else (Sm.print (text x).1.data.toList,0)
end Prn
end Go.Proofs.YtjfdohhdkdjifaaGreatDoor
set_option linter.unusedVariables false
set_option linter.unusedSimpArgs false
namespace Go.Proofs.YtjfdohhdkdjifaaGreatDoor
open Go.RowKit Go.BigFrame
namespace Prn
open Go.Proofs.YtjfdohhdkdjifaaGreatDoor.Id Go.Proofs.YtjfdohhdkdjifaaGreatDoor.Chk
def typeP (t:List Srt):ByteArray:=if t.length≤12∧okP t=true then jn (t.map sortW) else ⟨#[]⟩
theorem okP_drop {t:List Srt} {k:Nat} (h:k+1<t.length):okP (t.drop k)=(mid (t[k]'(by omega))&&okP (t.drop (k+1))):=by
 rw [List.drop_eq_getElem_cons (show k<t.length by omega),List.drop_eq_getElem_cons h]
 rfl
theorem okP_last {t:List Srt} {k:Nat} (h:k+1=t.length):okP (t.drop k)=finP (t[k]'(by omega)):=by
 rw [List.drop_eq_getElem_cons (show k<t.length by omega),List.drop_of_length_le (by omega)]
 rfl
theorem sorts_size {t:List Srt} (h:okP t=true):∀ u∈t.map sortW,u.size≤32:=fun u hu=>by
 obtain ⟨x,hx,rfl⟩:=List.mem_map.1 hu
 exact (own_sorts h x hx).2
end Prn
set_option maxRecDepth 100000 in
set_option maxHeartbeats 16000000 in
theorem pType_any (tv:Value) (t:List Id.Srt) (w:World) (hk:Tk.KW w) (ht:Id.SortsR w none tv t) :
  Calls Tryz.prog 103 #[tv] w fun e w'=>e=.returned (.string (Prn.typeP t))∧Below w.heap.size w w':=by
 obtain ⟨T,HT⟩:∃ T,Hid (Prn.typeP t=T):=⟨_,Lib.hid rfl⟩
 rw [HT.out]
 unfold Prn.typeP at HT
 have HKW:=Lib.hid hk
 have HS:=Lib.hid ht
 obtain ⟨A,n,c,rfl⟩:=ERow.is ht
 have HN:Hid (n=t.length):=Lib.hid (by obtain ⟨_,_,e,_⟩:=ERow.slice ht;injection e)
 have hm:n≤9223372036854775807:=by obtain ⟨_,_,e,_,_⟩:=ERow.slice ht;injection e;omega
 clear hk ht
 by_cases h12:n≤12
 case neg =>
  have HE:Hid (T=⟨#[]⟩):=Lib.hid (by rw [←HT.out,if_neg (by rw [←HN.out];exact fun h=>h12 h.1)])
  have h0:((n:Int)==0)=false:=by rw [beq_eq_false_iff_ne];omega
  have h0b:¬(n:Int)=0:=by omega
  have h1:(12:Int)<(n:Int):=by omega
  have h2:12<n:=by omega
  clear h12
  go_enter Tryz.func103,Tryz.ntmps103
  go_wp2_with fail
  go_ret
  exact ⟨by rw [HE.out];rfl,Below.refl _ _⟩
 by_cases h00:n=0
 case pos =>
  have HE:Hid (T=⟨#[]⟩):=Lib.hid (by rw [←HT.out,if_neg (by rw [List.length_eq_zero_iff.1 (HN.out.symm.trans h00)];exact fun h=>by cases h.2)])
  subst h00
  try simp only [Int.cast_ofNat_Int] at *
  go_enter Tryz.func103,Tryz.ntmps103
  go_wp2_with fail
  go_ret
  exact ⟨by rw [HE.out];rfl,Below.refl _ _⟩
 obtain ⟨R,HR⟩:∃ R,Hid (Prn.okP t=R):=⟨_,Lib.hid rfl⟩
 have HTT:Hid ((if R=true then Prn.jn (t.map Prn.sortW) else ⟨#[]⟩)=T):=Lib.hid (by rw [←HT.out,HR.out];simp only [←HN.out,h12,true_and])
 have HNO:Hid (R=false→T=⟨#[]⟩):=Lib.hid (fun h=>by rw [←HTT.out,if_neg (by rw [h];decide)])
 have h0:((n:Int)==0)=false:=by rw [beq_eq_false_iff_ne];omega
 have h0b:¬(n:Int)=0:=by omega
 have h1:¬(12:Int)<(n:Int):=by omega
 have h2:¬12<n:=by omega
 have hn1:1≤n:=by omega
 clear h00 HT
 go_enter Tryz.func103,Tryz.ntmps103
 go_wp2_with fail
 go_loopw [17] (fun i wr=>∃ (k:Nat),k≤n∧i=.int .i64 k∧Hid ((k<n→Prn.okP (t.drop k)=R)∧(k=n→R=true))∧Hid (Below w.heap.size w wr)) (fun i _=>n - (intOf i).toNat)
 case atStart=>exact ⟨0,by omega,rfl,Lib.hid ⟨fun _=>HR.out,fun h=>by omega⟩,Lib.hid (Below.refl _ _)⟩
 case round =>
  obtain ⟨k,hk,rfl,HK,HB⟩:=hrel
  obtain ⟨V,rfl⟩:∃ w',w'=wr:=⟨_,rfl⟩
  have ik0:(0:Int)≤(k:Int):=by omega
  by_cases hlt:k<n
  case neg =>
   obtain rfl:k=n:=by omega
   have hRt:=HK.out.2 rfl
   have HRO:Hid (Prn.okP t=true):=Lib.hid (by rw [HR.out];exact hRt)
   have HE:Hid (Prn.jn (t.map Prn.sortW)=T):=Lib.hid (by rw [←HTT.out,if_pos hRt])
   have hbs:=HB.out.size
   clear hRt HK
   go_upto_region 24 with (fail)
   refine wp_named (fun W2 hW=>?_)
   obtain ⟨hbx,hqx,-⟩:=fresh_box hW
   have HP:=Lib.hid (Prn.Put.start (w0:=V) (b:=V.heap.size) (L:=[]) hbx ⟨Nat.le_refl _,hbx.size,_,hqx,ERow.nil _ _ _ _ _⟩)
   clear hW hqx
   have HB2:=Lib.hid (HB.out.trans (hbx.mono hbs))
   clear hbx
   go_wp2_with fail
   refine (pwsorts_any V.heap.size _ t _ V W2 HP.out.bel HP.out.wr (fun w' hb _=>ERow.below (ERow.below HS.out HB.out (fun _ _ h=>h)) hb (fun _ _ h=>h)) (by simp only [List.length_nil,List.length_append,←HN.out];omega)).mono ?_
   rintro e W3 ⟨rfl,hp⟩
   have HP3:=Lib.hid (HP.out.step hp)
   clear hp
   go_wp2_with fail
   have hjl:=Prn.jl_le (Prn.sorts_size HRO.out)
   rw [List.length_map,←HN.out] at hjl
   refine (pwtext_any V.heap.size (t.map Prn.sortW) V.heap.size W3 (by have h:=HP3.out.wr;rw [List.nil_append,List.nil_append] at h;exact h) (by simp only [List.length_map,←HN.out];omega) (by omega)).mono ?_
   rw [HE.out]
   rintro e W4 ⟨rfl,hb4⟩
   have HB4:=Lib.hid (HB.out.trans ((HP3.out.bel.trans (hb4.mono HP3.out.bel.size)).mono hbs))
   clear hb4 hjl
   go_wp2_with fail
   go_ret
   exact ⟨rfl,HB4.out⟩
  have hka:k<t.length:=by rw [←HN.out];exact hlt
  have hK:=HK.out.1 hlt
  obtain ⟨g,off,cs,rfl,-,e1,hc⟩:=ERow.get HS.out hka (by omega)
  have HX:Hid ((k+1<n→Prn.okP (t.drop k)=(Chk.mid t[k]&&Prn.okP (t.drop (k+1))))∧(k+1=n→Prn.okP (t.drop k)=Prn.finP t[k])):=Lib.hid ⟨fun h=>Prn.okP_drop (by rw [←HN.out];exact h),fun h=>Prn.okP_last (by rw [←HN.out];exact h)⟩
  obtain ⟨⟨yk,yn⟩,Hy⟩:∃ y,Hid (t[k]=y):=⟨_,Lib.hid rfl⟩
  rw [hK,Hy.out] at HX
  rw [Hy.out] at e1
  unfold Id.SortE Id.Srt.cells at e1
  subst e1
  have a0:=hc 0 _ rfl
  have a1:=hc 1 _ rfl
  simp only [Nat.add_zero] at a0
  have hgl:g<w.heap.size:=World.block_lt_of_cell? w _ a0
  have a0:=(HB.out.cell hgl).trans a0
  have a1:=(HB.out.cell hgl).trans a1
  have hbs:=HB.out.size
  have hgne:¬g=V.heap.size:=by omega
  have ik1:(k:Int)<(n:Int):=by omega
  clear hc Hy hka hK HK
  go_upto_region 6 with (fail)
  refine wp_named (fun V1 hW=>?_)
  obtain ⟨hbx,hqx,-⟩:=fresh_box hW
  have HB1:=Lib.hid (HB.out.trans (hbx.mono hbs))
  obtain ⟨⟨b0,b1⟩,-⟩:=hqx.k2
  clear hW hbx hqx a0 a1 HB
  by_cases hl:k+1=n
  case pos =>
   have hf:=HX.out.2 hl
   have HFN:=Lib.hid hf
   have l1:((k:Int)==(n:Int) - 1)=true:=by rw [beq_iff_eq];omega
   have l2:(k:Int)=(n:Int) - 1:=by omega
   clear hf
   by_cases h5:yk=5
   case pos =>
    subst h5
    have HE:Hid (T=⟨#[]⟩):=Lib.hid (HNO.out (HFN.out.trans rfl))
    clear HX
    go_wp2_with fail
    go_ret
    exact ⟨by rw [HE.out];rfl,HB1.out⟩
   by_cases h6:yk=6
   case pos =>
    subst h6
    have HE:Hid (T=⟨#[]⟩):=Lib.hid (HNO.out (HFN.out.trans rfl))
    clear HX
    go_wp2_with fail
    go_ret
    exact ⟨by rw [HE.out];rfl,HB1.out⟩
   by_cases h1:yk=1
   case pos =>
    subst h1
    have hf:R=yn.toList.isEmpty:=HFN.out
    cases hne:yn.toList.isEmpty
    case false =>
     have HE:Hid (T=⟨#[]⟩):=Lib.hid (HNO.out (hf.trans hne))
     clear HX
     go_wp2_with fail
     go_ret
     exact ⟨by rw [HE.out];rfl,HB1.out⟩
    have hRt:R=true:=hf.trans hne
    clear hf
    have HK2:Hid ((k+1<n→Prn.okP (t.drop (k+1))=R)∧(k+1=n→R=true)):=Lib.hid (⟨fun h=>by omega,fun _=>hRt⟩)
    clear HX
    go_wp2_with fail
    go_roundw
    case rel=>exact ⟨k+1,by omega,by go_num,HK2,HB1⟩
    case measure=>simp [intOf] <;> omega
   by_cases h2:yk=2
   case pos =>
    subst h2
    have hf:R=yn.toList.isEmpty:=HFN.out
    cases hne:yn.toList.isEmpty
    case false =>
     have HE:Hid (T=⟨#[]⟩):=Lib.hid (HNO.out (hf.trans hne))
     clear HX
     go_wp2_with fail
     go_ret
     exact ⟨by rw [HE.out];rfl,HB1.out⟩
    have hRt:R=true:=hf.trans hne
    clear hf
    have HK2:Hid ((k+1<n→Prn.okP (t.drop (k+1))=R)∧(k+1=n→R=true)):=Lib.hid (⟨fun h=>by omega,fun _=>hRt⟩)
    clear HX
    go_wp2_with fail
    go_roundw
    case rel=>exact ⟨k+1,by omega,by go_num,HK2,HB1⟩
    case measure=>simp [intOf] <;> omega
   by_cases h3:yk=3
   case pos =>
    subst h3
    have hf:R=yn.toList.isEmpty:=HFN.out
    cases hne:yn.toList.isEmpty
    case false =>
     have HE:Hid (T=⟨#[]⟩):=Lib.hid (HNO.out (hf.trans hne))
     clear HX
     go_wp2_with fail
     go_ret
     exact ⟨by rw [HE.out];rfl,HB1.out⟩
    have hRt:R=true:=hf.trans hne
    clear hf
    have HK2:Hid ((k+1<n→Prn.okP (t.drop (k+1))=R)∧(k+1=n→R=true)):=Lib.hid (⟨fun h=>by omega,fun _=>hRt⟩)
    clear HX
    go_wp2_with fail
    go_roundw
    case rel=>exact ⟨k+1,by omega,by go_num,HK2,HB1⟩
    case measure=>simp [intOf] <;> omega
   by_cases h4:yk=4
   case pos =>
    subst h4
    have hf:R=yn.toList.isEmpty:=HFN.out
    cases hne:yn.toList.isEmpty
    case false =>
     have HE:Hid (T=⟨#[]⟩):=Lib.hid (HNO.out (hf.trans hne))
     clear HX
     go_wp2_with fail
     go_ret
     exact ⟨by rw [HE.out];rfl,HB1.out⟩
    have hRt:R=true:=hf.trans hne
    clear hf
    have HK2:Hid ((k+1<n→Prn.okP (t.drop (k+1))=R)∧(k+1=n→R=true)):=Lib.hid (⟨fun h=>by omega,fun _=>hRt⟩)
    clear HX
    go_wp2_with fail
    go_roundw
    case rel=>exact ⟨k+1,by omega,by go_num,HK2,HB1⟩
    case measure=>simp [intOf] <;> omega
   by_cases h7:yk=7
   case pos =>
    subst h7
    have HF7:Hid (R=Tk.isName yn):=Lib.hid HFN.out
    obtain ⟨b,HBN⟩:∃ b,Hid (Tk.isName yn=b):=⟨_,Lib.hid rfl⟩
    go_wp2_with fail
    refine (name_any yn _ (HKW.out.below HB1.out)).mono ?_
    rw [HBN.out]
    rintro e V2 ⟨rfl,hb2⟩
    have HBz:=Lib.hid (HB1.out.trans (hb2.mono HB1.out.size))
    clear hb2 b0 b1
    cases b
    case false =>
     have HE:Hid (T=⟨#[]⟩):=Lib.hid (HNO.out (HF7.out.trans HBN.out))
     go_wp2_with fail
     go_ret
     exact ⟨by rw [HE.out];rfl,HBz.out⟩
    have hRt:R=true:=HF7.out.trans HBN.out
    have HK2:Hid ((k+1<n→Prn.okP (t.drop (k+1))=R)∧(k+1=n→R=true)):=Lib.hid (⟨fun h=>by omega,fun _=>hRt⟩)
    clear HX
    go_wp2_with fail
    go_roundw
    case rel=>exact ⟨k+1,by omega,by go_num,HK2,HBz⟩
    case measure=>simp [intOf] <;> omega
   have hRf:R=false:=by rw [HFN.out];unfold Prn.finP;simp only [h1,h2,h3,h4,h7,false_or,or_self,if_false]
   have t5:((yk:Int)==5)=false:=by rw [beq_eq_false_iff_ne];omega
   have t6:((yk:Int)==6)=false:=by rw [beq_eq_false_iff_ne];omega
   have t1:((yk:Int)==1)=false:=by rw [beq_eq_false_iff_ne];omega
   have t2:((yk:Int)==2)=false:=by rw [beq_eq_false_iff_ne];omega
   have t3:((yk:Int)==3)=false:=by rw [beq_eq_false_iff_ne];omega
   have t4:((yk:Int)==4)=false:=by rw [beq_eq_false_iff_ne];omega
   have t7:((yk:Int)==7)=false:=by rw [beq_eq_false_iff_ne];omega
   have HRF:=Lib.hid hRf
   clear hRf h5 h6 h1 h2 h3 h4 h7
   have HE:Hid (T=⟨#[]⟩):=Lib.hid (HNO.out (HRF.out))
   clear HX
   go_wp2_with fail
   go_ret
   exact ⟨by rw [HE.out];rfl,HB1.out⟩
  have hf:=HX.out.1 (by omega)
  have HFN:=Lib.hid hf
  have l1:((k:Int)==(n:Int) - 1)=false:=by rw [beq_eq_false_iff_ne];omega
  have l2:¬(k:Int)=(n:Int) - 1:=by omega
  clear hf
  by_cases h5:yk=5
  case pos =>
   subst h5
   have hf:R=(yn.toList.isEmpty&&Prn.okP (t.drop (k+1))):=HFN.out
   cases hne:yn.toList.isEmpty
   case false =>
    have HE:Hid (T=⟨#[]⟩):=Lib.hid (HNO.out (by rw [hf,hne];rfl))
    clear HX
    go_wp2_with fail
    go_ret
    exact ⟨by rw [HE.out];rfl,HB1.out⟩
   have HK3:Hid (Prn.okP (t.drop (k+1))=R):=Lib.hid (by rw [hf,hne];rfl)
   clear hf
   have HK2:Hid ((k+1<n→Prn.okP (t.drop (k+1))=R)∧(k+1=n→R=true)):=Lib.hid (⟨fun _=>HK3.out,fun h=>absurd h hl⟩)
   clear HX
   go_wp2_with fail
   go_roundw
   case rel=>exact ⟨k+1,by omega,by go_num,HK2,HB1⟩
   case measure=>simp [intOf] <;> omega
  by_cases h6:yk=6
  case pos =>
   subst h6
   have hf:R=(yn.toList.isEmpty&&Prn.okP (t.drop (k+1))):=HFN.out
   cases hne:yn.toList.isEmpty
   case false =>
    have HE:Hid (T=⟨#[]⟩):=Lib.hid (HNO.out (by rw [hf,hne];rfl))
    clear HX
    go_wp2_with fail
    go_ret
    exact ⟨by rw [HE.out];rfl,HB1.out⟩
   have HK3:Hid (Prn.okP (t.drop (k+1))=R):=Lib.hid (by rw [hf,hne];rfl)
   clear hf
   have HK2:Hid ((k+1<n→Prn.okP (t.drop (k+1))=R)∧(k+1=n→R=true)):=Lib.hid (⟨fun _=>HK3.out,fun h=>absurd h hl⟩)
   clear HX
   go_wp2_with fail
   go_roundw
   case rel=>exact ⟨k+1,by omega,by go_num,HK2,HB1⟩
   case measure=>simp [intOf] <;> omega
  have HRF:Hid (R=false):=Lib.hid (by rw [HFN.out];unfold Chk.mid;simp [h5,h6])
  by_cases h1:yk=1
  case pos =>
   subst h1
   have HE:Hid (T=⟨#[]⟩):=Lib.hid (HNO.out (HRF.out))
   clear HX
   go_wp2_with fail
   go_ret
   exact ⟨by rw [HE.out];rfl,HB1.out⟩
  by_cases h2:yk=2
  case pos =>
   subst h2
   have HE:Hid (T=⟨#[]⟩):=Lib.hid (HNO.out (HRF.out))
   clear HX
   go_wp2_with fail
   go_ret
   exact ⟨by rw [HE.out];rfl,HB1.out⟩
  by_cases h3:yk=3
  case pos =>
   subst h3
   have HE:Hid (T=⟨#[]⟩):=Lib.hid (HNO.out (HRF.out))
   clear HX
   go_wp2_with fail
   go_ret
   exact ⟨by rw [HE.out];rfl,HB1.out⟩
  by_cases h4:yk=4
  case pos =>
   subst h4
   have HE:Hid (T=⟨#[]⟩):=Lib.hid (HNO.out (HRF.out))
   clear HX
   go_wp2_with fail
   go_ret
   exact ⟨by rw [HE.out];rfl,HB1.out⟩
  by_cases h7:yk=7
  case pos =>
   subst h7
   have HE:Hid (T=⟨#[]⟩):=Lib.hid (HNO.out (HRF.out))
   clear HX
   go_wp2_with fail
   go_ret
   exact ⟨by rw [HE.out];rfl,HB1.out⟩
  have t5:((yk:Int)==5)=false:=by rw [beq_eq_false_iff_ne];omega
  have t6:((yk:Int)==6)=false:=by rw [beq_eq_false_iff_ne];omega
  have t1:((yk:Int)==1)=false:=by rw [beq_eq_false_iff_ne];omega
  have t2:((yk:Int)==2)=false:=by rw [beq_eq_false_iff_ne];omega
  have t3:((yk:Int)==3)=false:=by rw [beq_eq_false_iff_ne];omega
  have t4:((yk:Int)==4)=false:=by rw [beq_eq_false_iff_ne];omega
  have t7:((yk:Int)==7)=false:=by rw [beq_eq_false_iff_ne];omega
  clear h5 h6 h1 h2 h3 h4 h7
  have HE:Hid (T=⟨#[]⟩):=Lib.hid (HNO.out (HRF.out))
  clear HX
  go_wp2_with fail
  go_ret
  exact ⟨by rw [HE.out];rfl,HB1.out⟩
end Go.Proofs.YtjfdohhdkdjifaaGreatDoor
set_option linter.unusedVariables false
set_option linter.unusedSimpArgs false
namespace Go.Proofs.YtjfdohhdkdjifaaGreatDoor
namespace Prn
open Go.Proofs.YtjfdohhdkdjifaaGreatDoor.Id Go.Proofs.YtjfdohhdkdjifaaGreatDoor.Chk
theorem type_of {s:ByteArray} {l:List Tk.Tok} {a:Nat} {x:List Srt} (ht:Tk.all s=(l,a,0)) (hr:sorts (l,false)=(x,([],false))):Id.type s=(x,0,0):=whole_good ht hr
theorem type_text {t:List Srt} (h:okP t=true) (hl:t.length≤12):Id.type (jn (t.map sortW))=(t,0,0):=by
 have ho:Owns (t.map sortT):=fun u hu=>by
  obtain ⟨x,hx,rfl⟩:=List.mem_map.1 hu
  exact own_sorts h x hx
 have hsz:(jn (t.map sortW)).size≤65536:=by
  rw [jn_size]
  have:=jl_le (sorts_size h)
  rw [List.length_map] at this
  omega
 have ha:=all_text ho (by rw [tx_sorts];exact hsz)
 rw [tx_sorts] at ha
 have hr:=sorts_ok h []
 rw [List.append_nil] at hr
 exact type_of ha (read_placed sorts_z (at_sorts t) hr)
end Prn
end Go.Proofs.YtjfdohhdkdjifaaGreatDoor
set_option linter.unusedVariables false
set_option linter.unusedSimpArgs false
namespace Go.Proofs.YtjfdohhdkdjifaaGreatDoor
open Go.RowKit Go.BigFrame
namespace Vl
open Go.Proofs.YtjfdohhdkdjifaaGreatDoor.Id Go.Proofs.YtjfdohhdkdjifaaGreatDoor.Chk
structure Node where
 kind:Nat
 int:Int
 text:ByteArray
 kids:Int
def Node.cells (n:Node):List Value:=[.int .u8 n.kind,.int .i64 n.int,.string n.text,.int .i64 n.kids]
def NodE (w:World) (cs:List Value) (n:Node):Prop:=cs=n.cells
def ValR (w:World) (B:Option Nat) (v:Value) (l:List Node):Prop:=ERow w B 71 4 NodE v l
/-- A part without others. -/
def leaf (k:Nat) (n:Node):Bool:=n.kind==k&&(n.kids==0)&&(n.int==0||k==3||(k==2&&n.int==1))&&(n.text.toList.isEmpty||k==4)
def kidsRec (r:Rec) (n:Node):Option (List (List Srt)) :=
 if r.choice=true then
  if n.kind=8∧n.text.toList.isEmpty=true∧n.kids=1∧0≤n.int∧n.int<r.fields.length then some [(r.fields.map (·.type)).getD n.int.toNat []] else none
 else if n.kind=7∧n.int=0∧n.text.toList.isEmpty=true∧n.kids=r.fields.length then some (r.fields.map (·.type)) else none
/-- How many parts a list, or an opt, may have. -/
def wlim (lim k:Nat):Nat:=if k=6 then 1 else lim
def kidsWrap (lim k:Nat) (t:List Srt) (n:Node):Option (List (List Srt)) :=
 if n.kind=k∧n.int=0∧n.text.toList.isEmpty=true∧0≤n.kids∧n.kids≤(wlim lim k:Int) then some (List.replicate n.kids.toNat t) else none
def kidsOf (s:Sch) (lim:Nat) (x:Srt) (t:List Srt) (n:Node):Option (List (List Srt)) :=
 if x.kind=5∨x.kind=6 then kidsWrap lim x.kind t n else kidsRec ((find s x.name).getD recZ) n
def manyF (f:List Srt→List Node→Option (Nat × List Node)):List (List Srt)→Nat→List Node→Option (Nat × List Node)
 | [],d,r=>some (d,r)
 | t::ts,d,r=>match f t r with
  | none=>none
  | some p=>manyF f ts (max d p.1) p.2
def up (p:Option (Nat × List Node)):Option (Nat × List Node):=p.map fun p=>(p.1+1,p.2)
def stepK (o:Option (List (List Srt))) (f:List Srt→List Node→Option (Nat × List Node)) (r:List Node):Option (Nat × List Node):=match o with
 | none=>none
 | some ks=>up (manyF f ks 0 r)
/-- A value of a type, taken of the parts: its depth, and what is left. lim: how many parts a list may have (none: those left). -/
def ofF (s:Sch) (lim:Option Nat):Nat→List Srt→List Node→Option (Nat × List Node)
 | 0,_,_=>none
 | _+1,[],_=>none
 | _+1,_::_,[]=>none
 | k+1,x::t,n::r =>
  if x.kind=1∨x.kind=2∨x.kind=3∨x.kind=4 then (if leaf x.kind n=true then some (1,r) else none)
  else stepK (kidsOf s (lim.getD r.length) x t n) (ofF s lim k) r
/-- The parts that so many wholes take. -/
def endL (N:Nat):Nat→List Node→Option (List Node)
 | 0,r=>some r
 | _+1,[]=>none
 | l+1,n::r=>if 0≤n.kids∧n.kids≤N then endL N (l+n.kids.toNat) r else none
def size (v:List Node):Nat:=v.length+(v.map (·.text.size)).sum
noncomputable def fits (s:Sch) (t:List Srt) (v:List Node):Nat :=
 if (check s).2≠0 then (check s).2 else if right s t=false then 131 else
 match ofF s none (v.length+1) t v with
 | none=>150
 | some p=>if p.2.length≠0 then 150 else if 12<p.1 then 151 else if 4096<size v then 3 else 0
def fieldL (N:Nat) (fn:ByteArray):List Fld→List Node→Option (List Node)
 | [],_=>none
 | f::fs,r=>match endL N 1 r with
  | none=>none
  | some r'=>if (f.name.toList==fn.toList)=true then some (r.take (r.length - r'.length)) else fieldL N fn fs r'
def nmd (rn:ByteArray):List Srt:=[⟨7,rn⟩]
noncomputable def field (s:Sch) (rn:ByteArray) (v:List Node) (fn:ByteArray):Option (List Node) :=
 match find s rn with
 | none=>none
 | some r=>if r.choice=true then none else if fits s (nmd rn) v≠0 then none else fieldL v.length fn r.fields (v.drop 1)
theorem endL_add (N:Nat):∀ (r:List Node) (a b:Nat),endL N (a+b) r=(endL N a r).bind (endL N b)
 | [],0,b=>by rw [Nat.zero_add];rfl
 | [],a+1,b=>by rw [show a+1+b=(a+b)+1 by omega];rfl
 | n::r,0,b=>by rw [Nat.zero_add];rfl
 | n::r,a+1,b=>by
  rw [show a+1+b=(a+b)+1 by omega]
  unfold endL
  split
  ·rw [show a+b+n.kids.toNat=(a+n.kids.toNat)+b by omega]
   exact endL_add N r _ b
  ·rfl
theorem up_some {p:Option (Nat × List Node)} {d:Nat} {r:List Node} (h:up p=some (d,r)):∃ e,d=e+1∧p=some (e,r):=by
 unfold up at h
 cases p with
 | none=>cases h
 | some q =>
  obtain ⟨a,b⟩:=q
  simp only [Option.map_some] at h
  injection h with h
  injection h with h1 h2
  subst h1 h2
  exact ⟨a,rfl,rfl⟩
/-- What is taken: at least one part of each; an end of the parts is left, where the whole ends. -/
theorem many_len {N:Nat} {f:List Srt→List Node→Option (Nat × List Node)} (hf:∀ t r d r',r.length≤N→f t r=some (d,r')→1≤d∧r'.length+1≤r.length∧endL N 1 r=some r') :
  ∀ (ts:List (List Srt)) (d:Nat) (r:List Node) (e:Nat) (r':List Node),r.length≤N→manyF f ts d r=some (e,r')→d≤e∧r'.length+ts.length≤r.length∧endL N ts.length r=some r'
 | [],d,r,e,r',hN,h=>by
  injection h with h
  injection h with h1 h2
  subst h1 h2
  exact ⟨Nat.le_refl _,by simp,by cases r <;> rfl⟩
 | t::ts,d,r,e,r',hN,h=>by
  unfold manyF at h
  split at h
  ·cases h
  ·rename_i p hp
   obtain ⟨a,q⟩:=p
   obtain ⟨h1,h2,h3⟩:=hf t r a q hN hp
   obtain ⟨h4,h5,h6⟩:=many_len hf ts (max d a) q e r' (by omega:q.length≤N) h
   simp only [List.length_cons]
   refine ⟨by omega,by omega,?_⟩
   rw [show ts.length+1=1+ts.length by omega,endL_add,h3]
   exact h6
theorem kids_num {s:Sch} {lim:Nat} {x:Srt} {t:List Srt} {n:Node} {ks:List (List Srt)} (h:kidsOf s lim x t n=some ks):n.kids=ks.length:=by
 unfold kidsOf at h
 split at h
 ·unfold kidsWrap at h
  split at h
  ·rename_i h1
   injection h with h
   subst h
   rw [List.length_replicate]
   omega
  ·cases h
 ·unfold kidsRec at h
  split at h
  ·split at h
   ·rename_i h1
    injection h with h
    subst h
    rw [h1.2.2.1]
    rfl
   ·cases h
  ·split at h
   ·rename_i h1
    injection h with h
    subst h
    rw [h1.2.2.2,List.length_map]
   ·cases h
theorem leaf_kids {k:Nat} {n:Node} (h:leaf k n=true):n.kids=0:=by
 unfold leaf at h
 simp only [Bool.and_eq_true,beq_iff_eq] at h
 exact h.1.1.2
theorem stepK_some {o:Option (List (List Srt))} {f:List Srt→List Node→Option (Nat × List Node)} {r:List Node} {d:Nat} {r':List Node} (h:stepK o f r=some (d,r')):∃ ks e,o=some ks∧d=e+1∧manyF f ks 0 r=some (e,r'):=by
 unfold stepK at h
 split at h
 ·cases h
 ·rename_i ks
  obtain ⟨e,h1,h2⟩:=up_some h
  exact ⟨ks,e,rfl,h1,h2⟩
theorem of_len {s:Sch} {lim:Option Nat} {N:Nat}:∀ (k:Nat) (t:List Srt) (r:List Node) (d:Nat) (r':List Node),r.length≤N→ofF s lim k t r=some (d,r')→1≤d∧r'.length+1≤r.length∧endL N 1 r=some r'
 | 0,t,r,d,r',hN,h=>by unfold ofF at h;cases h
 | k+1,[],r,d,r',hN,h=>by unfold ofF at h;cases h
 | k+1,x::t,[],d,r',hN,h=>by unfold ofF at h;cases h
 | k+1,x::t,n::r,d,r',hN,h=>by
  simp only [List.length_cons] at hN ⊢
  unfold ofF at h
  split at h
  ·split at h
   ·rename_i hl
    injection h with h
    injection h with h1 h2
    subst h1 h2
    refine ⟨Nat.le_refl _,Nat.le_refl _,?_⟩
    unfold endL
    rw [leaf_kids hl,if_pos ⟨by omega,by omega⟩]
    cases r <;> rfl
   ·cases h
  ·obtain ⟨ks,e,hks,rfl,h2⟩:=stepK_some h
   obtain ⟨h3,h4,h5⟩:=many_len (N:=N) (of_len k) ks 0 r e r' (by omega) h2
   refine ⟨by omega,by omega,?_⟩
   have hn:=kids_num hks
   unfold endL
   rw [hn,if_pos ⟨by omega,by omega⟩,Nat.zero_add,Int.toNat_natCast]
   exact h5
end Vl
end Go.Proofs.YtjfdohhdkdjifaaGreatDoor
set_option linter.unusedVariables false
set_option linter.unusedSimpArgs false
namespace Go.Proofs.YtjfdohhdkdjifaaGreatDoor
open Go.RowKit Go.BigFrame
namespace Vl
open Go.Proofs.YtjfdohhdkdjifaaGreatDoor.Id Go.Proofs.YtjfdohhdkdjifaaGreatDoor.Chk Go.Proofs.YtjfdohhdkdjifaaGreatDoor.Prn
theorem typeP_empty (t:List Srt):(typeP t).toList.isEmpty=!(decide (t.length≤12)&&okP t):=by
 unfold typeP
 by_cases h:t.length≤12∧okP t=true
 ·rw [if_pos h,decide_eq_true h.1,h.2]
  cases he:(jn (t.map sortW)).toList.isEmpty
  ·rfl
  ·exfalso
   have h1:=type_text h.2 h.1
   rw [empty_of he] at h1
   have h2:(Id.type (⟨#[]⟩:ByteArray)).2.2=120:=by decide +kernel
   rw [h1] at h2
   cases h2
 ·rw [if_neg h]
  have:(decide (t.length≤12)&&okP t)=false:=by
   rw [Bool.eq_false_iff]
   intro h2
   rw [Bool.and_eq_true,decide_eq_true_eq] at h2
   exact h h2
  rw [this]
  decide +kernel
theorem name_size {s:ByteArray} (h:Tk.isName s=true):s.size≤32:=by
 rcases Nat.lt_or_ge 32 s.size with h1 | h1
 ·have:=Tk.isName_short (.inr h1)
  rw [this] at h
  cases h
 ·exact h1
/-- The last sort's name is there. -/
def lastOk (s:Sch) (t:List Srt):Bool:=match t.getLast? with
 | none=>false
 | some x=>x.kind != 7||(find s x.name).isSome
theorem find_name {s:Sch} {n:ByteArray} {r:Rec} (h:find s n=some r):r∈s.records∧r.name=n:=by
 unfold find at h
 refine ⟨List.mem_of_find?_eq_some h,Tk.text_eq ?_⟩
 have:=List.find?_some h
 simpa using this
theorem fin_last {s:Sch} (h:Right s) (x:Srt):fin s x=(finP x&&(x.kind != 7||(find s x.name).isSome)):=by
 unfold fin finP
 by_cases h1:x.kind=1∨x.kind=2∨x.kind=3∨x.kind=4
 ·rw [if_pos h1,if_pos h1,show (x.kind != 7)=true by rw [bne_iff_ne];omega]
  simp
 ·rw [if_neg h1,if_neg h1]
  by_cases h7:x.kind=7
  ·rw [if_pos h7,if_pos h7,show (x.kind != 7)=false by rw [h7];rfl,Bool.false_or]
   cases hf:find s x.name with
   | none=>simp
   | some r =>
    obtain ⟨hr,hn⟩:=find_name hf
    have:=(ok_of_right h).rn r hr
    rw [hn] at this
    rw [this]
    rfl
  ·rw [if_neg h7,if_neg h7,Bool.false_and]
theorem okT_last {s:Sch} (h:Right s):∀ t:List Srt,okT s t=(okP t&&lastOk s t)
 | []=>rfl
 | [x]=>fin_last h x
 | x::y::l=>by
  show (mid x&&okT s (y::l))=(mid x&&okP (y::l)&&lastOk s (x::y::l))
  rw [okT_last h (y::l),Bool.and_assoc]
  rfl
theorem right_typeP {s:Sch} (h:Right s) (t:List Srt):right s t=(!(typeP t).toList.isEmpty&&lastOk s t):=by
 rw [typeP_empty,Bool.not_not]
 unfold right
 rw [okT_last h,Bool.and_assoc]
/-- The last record of a name. -/
def lastR (rs:List Rec) (n:ByteArray):Rec:=(rs.reverse.find? fun r=>r.name.toList==n.toList).getD recZ
theorem lastR_snoc (rs:List Rec) (r:Rec) (n:ByteArray):lastR (rs++[r]) n=if (r.name.toList==n.toList)=true then r else lastR rs n:=by
 unfold lastR
 rw [List.reverse_append,List.reverse_singleton,List.singleton_append,List.find?_cons]
 cases h:(r.name.toList==n.toList) <;> rfl
theorem lastR_find {s:Sch} (h:Right s) (n:ByteArray):lastR s.records n=(find s n).getD recZ:=by
 unfold lastR
 cases hf:s.records.reverse.find? (fun r=>r.name.toList==n.toList) with
 | some r =>
  have hm:=List.mem_reverse.1 (List.mem_of_find?_eq_some hf)
  have hn:r.name=n:=Tk.text_eq (by simpa using List.find?_some hf)
  have:=right_find h hm
  rw [hn] at this
  rw [this]
 | none =>
  have:find s n=none:=by
   unfold find
   rw [List.find?_eq_none] at hf ⊢
   exact fun x hx=>hf x (List.mem_reverse.2 hx)
  rw [this]
/-- Types of a right schema's fields, and types within a type, are right. -/
theorem okT_tail {s:Sch} {x:Srt} {t:List Srt} (h:okT s (x::t)=true) (hx:x.kind=5∨x.kind=6):okT s t=true:=by
 cases t with
 | nil =>
  have h:fin s x=true:=h
  unfold fin at h
  rw [if_neg (by omega),if_neg (by omega)] at h
  cases h
 | cons y l =>
  have h:(mid x&&okT s (y::l))=true:=h
  rw [Bool.and_eq_true] at h
  exact h.2
theorem okT_kind {s:Sch} {x:Srt} {t:List Srt} (h:okT s (x::t)=true):(x.kind=1∨x.kind=2∨x.kind=3∨x.kind=4)∨x.kind=5∨x.kind=6∨(x.kind=7∧t=[]∧(find s x.name).isSome=true):=by
 cases t with
 | nil =>
  have h:fin s x=true:=h
  unfold fin at h
  by_cases h1:x.kind=1∨x.kind=2∨x.kind=3∨x.kind=4
  ·exact .inl h1
  ·rw [if_neg h1] at h
   by_cases h7:x.kind=7
   ·rw [if_pos h7] at h
    exact .inr (.inr (.inr ⟨h7,rfl,h⟩))
   ·rw [if_neg h7] at h
    cases h
 | cons y l =>
  have h:(mid x&&okT s (y::l))=true:=h
  rw [Bool.and_eq_true] at h
  have:=h.1
  unfold mid at this
  simp only [Bool.and_eq_true,Bool.or_eq_true,beq_iff_eq] at this
  omega
theorem okT_ne {s:Sch} {t:List Srt} (h:okT s t=true):t≠[]:=fun e=>by subst e;cases h
theorem right_okT {s:Sch} {t:List Srt} (h:right s t=true):okT s t=true∧t.length≤12:=by
 unfold right at h
 rw [Bool.and_eq_true,decide_eq_true_eq] at h
 exact ⟨h.2,h.1⟩
theorem field_right {s:Sch} (h:Right s) {r:Rec} (hr:r∈s.records) {f:Fld} (hf:f∈r.fields):right s f.type=true:=by
 have ht:=(right_iff.1 h).2.2.2.1
 exact ht (right s f.type,Chk.part r.name f.name) (List.mem_append_left _ (List.mem_flatMap.2 ⟨r,hr,List.mem_flatMap.2 ⟨f,hf,by simp [typesF]⟩⟩))
theorem fields_few {s:Sch} (h:Right s) {r:Rec} (hr:r∈s.records):r.fields.length≤16:=by
 have ht:=(right_iff.1 h).2.1
 have:=ht (decide ((r.fields.length:Int)≤16),r.name) (List.mem_cons_of_mem _ (List.mem_append_left _ (List.mem_flatMap.2 ⟨r,hr,by simp [countsR]⟩)))
 rw [decide_eq_true_eq] at this
 omega
def docV (v:List Node):Option (Nat × List Node)→Int × Nat
 | none=>(-1,0)
 | some p=>((v.length:Int) - p.2.length,p.1)
def deep:Option (Nat × List Node)→Nat
 | none=>0
 | some p=>p.1
end Vl
end Go.Proofs.YtjfdohhdkdjifaaGreatDoor
set_option linter.unusedVariables false
set_option linter.unusedSimpArgs false
namespace Go.Proofs.YtjfdohhdkdjifaaGreatDoor
open Go.RowKit Go.BigFrame
namespace Vl
open Go.Proofs.YtjfdohhdkdjifaaGreatDoor.Id Go.Proofs.YtjfdohhdkdjifaaGreatDoor.Chk Go.Proofs.YtjfdohhdkdjifaaGreatDoor.Prn
theorem fits_ok {s:Sch} {t:List Srt} {v:List Node} (h:fits s t v=0):Right s∧right s t=true∧∃ d,ofF s none (v.length+1) t v=some (d,[])∧d≤12∧size v≤4096:=by
 unfold fits at h
 split at h
 ·rename_i h1
  exact absurd h h1
 ·rename_i h1
  split at h
  ·cases h
  ·rename_i h2
   refine ⟨check_ok (by omega),by simpa using h2,?_⟩
   split at h
   ·cases h
   ·rename_i p hp
    obtain ⟨d,r⟩:=p
    split at h
    ·cases h
    ·rename_i h3
     split at h
     ·cases h
     ·rename_i h4
      split at h
      ·cases h
      ·rename_i h5
       simp only at h3 h4
       obtain rfl:r=[]:=List.length_eq_zero_iff.1 (by omega)
       exact ⟨d,hp,by omega,by omega⟩
end Vl
end Go.Proofs.YtjfdohhdkdjifaaGreatDoor
set_option linter.unusedVariables false
set_option linter.unusedSimpArgs false
namespace Go.Proofs.YtjfdohhdkdjifaaGreatDoor
open Go.RowKit Go.BigFrame
namespace Vl
open Go.Proofs.YtjfdohhdkdjifaaGreatDoor.Id Go.Proofs.YtjfdohhdkdjifaaGreatDoor.Chk Go.Proofs.YtjfdohhdkdjifaaGreatDoor.Prn
def lvQ (p:List Srt→Bool) (r:Rec):Bool:=if r.choice then r.fields.any (fun f=>p f.type) else r.fields.all (fun f=>p f.type)
/-- Is there a value of a type that is at most so deep? -/
def lvT (s:Sch):Nat→List Srt→Bool
 | 0,_=>false
 | _+1,[]=>false
 | d+1,x::_=>if x.kind=7 then (match find s x.name with | none=>false | some r=>lvQ (lvT s d) r) else true
/-- Depths as they are known: of each name, 0 if none is. -/
abbrev Kn:=ByteArray→Nat
def dpt (kn:Kn) (t:List Srt):Nat:=match t with
 | []=>0
 | x::_=>if x.kind=7 then kn x.name else 1
structure LstS where
 best:Nat
 worst:Nat
 miss:Bool
def lstStep (kn:Kn) (a:LstS) (f:Fld):LstS :=
 ⟨if 0<dpt kn f.type∧(a.best=0∨dpt kn f.type<a.best) then dpt kn f.type else a.best,max a.worst (dpt kn f.type),a.miss||dpt kn f.type==0⟩
def lstF (kn:Kn) (r:Rec):LstS:=r.fields.foldl (lstStep kn) ⟨0,0,false⟩
def lstD (kn:Kn) (r:Rec):Nat × Bool:=if r.choice then ((lstF kn r).best+1,decide (0<(lstF kn r).best)) else ((lstF kn r).worst+1,!(lstF kn r).miss)
/-- What the fold finds. -/
theorem lst_fold (kn:Kn):∀ (l:List Fld) (a:LstS),
  (∀ d,(l.foldl (lstStep kn) a).worst≤d↔a.worst≤d∧∀ f∈l,dpt kn f.type≤d) ∧
  ((l.foldl (lstStep kn) a).miss=true↔a.miss=true∨∃ f∈l,dpt kn f.type=0) ∧
  ((l.foldl (lstStep kn) a).best=0↔a.best=0∧∀ f∈l,dpt kn f.type=0) ∧
  (∀ f∈l,dpt kn f.type≠0→(l.foldl (lstStep kn) a).best≤dpt kn f.type) ∧
  (a.best≠0→(l.foldl (lstStep kn) a).best≤a.best) ∧
  ((l.foldl (lstStep kn) a).best≠a.best→∃ f∈l,dpt kn f.type=(l.foldl (lstStep kn) a).best)
 | [],a=>by simp
 | f::l,a=>by
  obtain ⟨h1,h2,h3,h4,h5,h6⟩:=lst_fold kn l (lstStep kn a f)
  rw [List.foldl_cons]
  have hb:(lstStep kn a f).best=if 0<dpt kn f.type∧(a.best=0∨dpt kn f.type<a.best) then dpt kn f.type else a.best:=rfl
  have hw:(lstStep kn a f).worst=max a.worst (dpt kn f.type):=rfl
  have hm:(lstStep kn a f).miss=(a.miss||dpt kn f.type==0):=rfl
  generalize (l.foldl (lstStep kn) (lstStep kn a f))=b at *
  generalize lstStep kn a f=c at *
  refine ⟨fun d=>?_,?_,?_,?_,?_,?_⟩
  ·rw [h1 d,hw]
   simp only [List.mem_cons,forall_eq_or_imp]
   constructor
   ·rintro ⟨a1,a2⟩;exact ⟨by omega,by omega,a2⟩
   ·rintro ⟨a1,a2,a3⟩;exact ⟨by omega,a3⟩
  ·rw [h2,hm]
   simp only [List.mem_cons,exists_eq_or_imp,Bool.or_eq_true,beq_iff_eq,or_assoc]
  ·rw [h3,hb]
   simp only [List.mem_cons,forall_eq_or_imp]
   split <;> constructor <;> (rintro ⟨a1,a2⟩) <;> first | (exact ⟨by omega,by omega,a2⟩) | (exact ⟨by omega,a2.2⟩) | omega
  ·intro g hg hd
   rcases List.mem_cons.1 hg with rfl | hg
   ·by_cases hc:c.best=0
    ·rw [hb] at hc
     split at hc <;> omega
    ·have:=h5 hc
     rw [hb] at this
     split at this <;> omega
   ·exact h4 g hg hd
  ·intro ha
   by_cases hc:c.best=0
   ·rw [hb] at hc
    split at hc <;> omega
   ·have:=h5 hc
    rw [hb] at this
    split at this <;> omega
  ·intro hne
   by_cases hc:b.best=c.best
   ·refine ⟨f,by simp,?_⟩
    rw [hc,hb]
    rw [hc,hb] at hne
    split at hne
    ·rename_i h;rw [if_pos h]
    ·exact absurd rfl hne
   ·obtain ⟨g,hg,he⟩:=h6 hc
    exact ⟨g,by simp [hg],he⟩
/-- The least depths. -/
def Min (s:Sch) (kn:Kn):Prop:=∀ n,(kn n≠0→lvT s (kn n) [⟨7,n⟩]=true)∧∀ d,lvT s d [⟨7,n⟩]=true→kn n≠0∧kn n≤d
def Sd (s:Sch) (kn:Kn):Prop:=∀ n,kn n≠0→lvT s (kn n) [⟨7,n⟩]=true
theorem lvT_head {s:Sch} {d:Nat} {x:Srt} {t:List Srt}:lvT s d (x::t)=lvT s d [x]:=by
 cases d with
 | zero=>rfl
 | succ d=>rfl
theorem lvT_name {s:Sch} {d:Nat} {x:Srt} (h:x.kind=7):lvT s d [x]=lvT s d [⟨7,x.name⟩]:=by
 obtain ⟨k,n⟩:=x
 simp only at h
 subst h
 rfl
theorem Sd.dpt {s:Sch} {kn:Kn} (h:Sd s kn) {t:List Srt} (hd:dpt kn t≠0):lvT s (dpt kn t) t=true:=by
 cases t with
 | nil=>exact absurd rfl hd
 | cons x t =>
  rw [lvT_head]
  unfold Vl.dpt at hd ⊢
  simp only at hd ⊢
  by_cases h7:x.kind=7
  ·rw [if_pos h7] at hd ⊢
   rw [lvT_name h7]
   exact h _ hd
  ·rw [if_neg h7]
   unfold lvT
   rw [if_neg h7]
theorem Min.dpt {s:Sch} {kn:Kn} (h:Min s kn) {t:List Srt} {d:Nat} (hd:lvT s d t=true):dpt kn t≠0∧dpt kn t≤d:=by
 cases t with
 | nil=>cases d <;> (unfold lvT at hd;cases hd)
 | cons x t =>
  rw [lvT_head] at hd
  unfold Vl.dpt
  simp only
  by_cases h7:x.kind=7
  ·rw [if_pos h7]
   rw [lvT_name h7] at hd
   exact (h _).2 d hd
  ·rw [if_neg h7]
   cases d with
   | zero=>cases hd
   | succ d=>exact ⟨by omega,by omega⟩
/-- Where nothing changes any more, the depths are the least. -/
def Stop (s:Sch) (kn:Kn):Prop:=∀ r∈s.records,(lstD kn r).2=true→kn r.name≠0∧kn r.name≤(lstD kn r).1
theorem Stop.le {s:Sch} {kn:Kn} (h:Stop s kn):∀ (d:Nat) (t:List Srt),lvT s d t=true→dpt kn t≠0∧dpt kn t≤d
 | 0,t,hl=>by unfold lvT at hl;cases hl
 | d+1,[],hl=>by unfold lvT at hl;cases hl
 | d+1,x::t,hl=>by
  unfold lvT at hl
  unfold dpt
  simp only
  split at hl
  ·rename_i h7
   rw [if_pos h7]
   split at hl
   ·cases hl
   ·rename_i r hr
    obtain ⟨hm,hn⟩:=find_name hr
    obtain ⟨h1,h2,h3,h4,h5,h6⟩:=lst_fold kn r.fields ⟨0,0,false⟩
    have e:r.fields.foldl (lstStep kn) ⟨0,0,false⟩=lstF kn r:=rfl
    rw [e] at h1 h2 h3 h4 h5 h6
    have hs:=h r hm
    rw [hn] at hs
    unfold lstD at hs
    unfold lvQ at hl
    cases hc:r.choice
    ·rw [hc] at hs hl
     simp only [Bool.false_eq_true,if_false] at hs hl
     have ha:=List.all_eq_true.1 hl
     have hmiss:(lstF kn r).miss=false:=by
      rw [Bool.eq_false_iff]
      intro hmi
      rcases h2.1 hmi with e | ⟨f,hf,e⟩
      ·cases e
      ·exact (Stop.le h d f.type (ha f hf)).1 e
     obtain ⟨a1,a2⟩:=hs (by rw [hmiss];rfl)
     refine ⟨a1,Nat.le_trans a2 ?_⟩
     have:=(h1 d).2 ⟨Nat.zero_le _,fun f hf=>(Stop.le h d f.type (ha f hf)).2⟩
     omega
    ·rw [hc] at hs hl
     simp only [if_true,decide_eq_true_eq] at hs hl
     obtain ⟨f,hf,hp⟩:=List.any_eq_true.1 hl
     obtain ⟨b1,b2⟩:=Stop.le h d f.type hp
     have hb:(lstF kn r).best≠0:=fun e=>b1 ((h3.1 e).2 f hf)
     have hb2:=h4 f hf b1
     obtain ⟨a1,a2⟩:=hs (by omega)
     exact ⟨a1,by omega⟩
  ·rename_i h7
   rw [if_neg h7]
   exact ⟨by omega,by omega⟩
theorem Stop.min {s:Sch} {kn:Kn} (h:Stop s kn) (hs:Sd s kn):Min s kn:=fun n=>⟨hs n,fun d hd=>by
 have:=h.le d _ hd
 exact this⟩
end Vl
end Go.Proofs.YtjfdohhdkdjifaaGreatDoor
set_option linter.unusedVariables false
set_option linter.unusedSimpArgs false
namespace Go.Proofs.YtjfdohhdkdjifaaGreatDoor
open Go.RowKit Go.BigFrame
namespace Vl
open Go.Proofs.YtjfdohhdkdjifaaGreatDoor.Id Go.Proofs.YtjfdohhdkdjifaaGreatDoor.Chk Go.Proofs.YtjfdohhdkdjifaaGreatDoor.Prn
theorem nil_empty:(⟨#[]⟩:ByteArray).toList.isEmpty=true:=by decide +kernel
end Vl
end Go.Proofs.YtjfdohhdkdjifaaGreatDoor
