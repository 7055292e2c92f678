/- prints.Type (printed by gen_prnt.py). No condition but the keywords' table. -/
import Derived.Test.YtogijkhenihaaaaGreatDoorGE18
import Derived.Test.YtogijkhenihaaaaGreatDoorGE16
import Derived.Test.YtogijkhenihaaaaGreatDoorGE04
set_option linter.unusedVariables false
set_option linter.unusedSimpArgs false
namespace Go.Proofs.YtogijkhenihaaaaGreatDoor
open Go.RowKit Go.BigFrame
namespace Prn
open Go.Proofs.YtogijkhenihaaaaGreatDoor.Id Go.Proofs.YtogijkhenihaaaaGreatDoor.Chk
def typeP (t:List Srt):ByteArray:=if t.length≤12∧okP t=true then jn (t.map sortW) else ⟨#[]⟩
theorem okP_drop {t:List Srt} {k:Nat} (h:k+1<t.length):okP (t.drop k)=(mid (t[k]'(by omega))&&okP (t.drop (k+1))):=by
 rw [List.drop_eq_getElem_cons (show k<t.length by omega),List.drop_eq_getElem_cons h]
 rfl
theorem okP_last {t:List Srt} {k:Nat} (h:k+1=t.length):okP (t.drop k)=finP (t[k]'(by omega)):=by
 rw [List.drop_eq_getElem_cons (show k<t.length by omega),List.drop_of_length_le (by omega)]
 rfl
theorem sorts_size {t:List Srt} (h:okP t=true):∀ u∈t.map sortW,u.size≤32:=fun u hu=>by
 obtain ⟨x,hx,rfl⟩:=List.mem_map.1 hu
 exact (own_sorts h x hx).2
end Prn
set_option maxRecDepth 100000 in
set_option maxHeartbeats 16000000 in
theorem pType_any (tv:Value) (t:List Id.Srt) (w:World) (hk:Tk.KW w) (ht:Id.SortsR w none tv t) :
  Calls Tryz.prog 120 #[tv] w fun e w'=>e=.returned (.string (Prn.typeP t))∧Below w.heap.size w w':=by
 obtain ⟨T,HT⟩:∃ T,Hid (Prn.typeP t=T):=⟨_,Lib.hid rfl⟩
 rw [HT.out]
 unfold Prn.typeP at HT
 have HKW:=Lib.hid hk
 have HS:=Lib.hid ht
 obtain ⟨A,n,c,rfl⟩:=ERow.is ht
 have HN:Hid (n=t.length):=Lib.hid (by obtain ⟨_,_,e,_⟩:=ERow.slice ht;injection e)
 have hm:n≤9223372036854775807:=by obtain ⟨_,_,e,_,_⟩:=ERow.slice ht;injection e;omega
 clear hk ht
 by_cases h12:n≤12
 case neg =>
  have HE:Hid (T=⟨#[]⟩):=Lib.hid (by rw [←HT.out,if_neg (by rw [←HN.out];exact fun h=>h12 h.1)])
  have h0:((n:Int)==0)=false:=by rw [beq_eq_false_iff_ne];omega
  have h0b:¬(n:Int)=0:=by omega
  have h1:(12:Int)<(n:Int):=by omega
  have h2:12<n:=by omega
  clear h12
  go_enter Tryz.func120,Tryz.ntmps120
  go_wp2_with fail
  go_ret
  exact ⟨by rw [HE.out];rfl,Below.refl _ _⟩
 by_cases h00:n=0
 case pos =>
  have HE:Hid (T=⟨#[]⟩):=Lib.hid (by rw [←HT.out,if_neg (by rw [List.length_eq_zero_iff.1 (HN.out.symm.trans h00)];exact fun h=>by cases h.2)])
  subst h00
  try simp only [Int.cast_ofNat_Int] at *
  go_enter Tryz.func120,Tryz.ntmps120
  go_wp2_with fail
  go_ret
  exact ⟨by rw [HE.out];rfl,Below.refl _ _⟩
 obtain ⟨R,HR⟩:∃ R,Hid (Prn.okP t=R):=⟨_,Lib.hid rfl⟩
 have HTT:Hid ((if R=true then Prn.jn (t.map Prn.sortW) else ⟨#[]⟩)=T):=Lib.hid (by rw [←HT.out,HR.out];simp only [←HN.out,h12,true_and])
 have HNO:Hid (R=false→T=⟨#[]⟩):=Lib.hid (fun h=>by rw [←HTT.out,if_neg (by rw [h];decide)])
 have h0:((n:Int)==0)=false:=by rw [beq_eq_false_iff_ne];omega
 have h0b:¬(n:Int)=0:=by omega
 have h1:¬(12:Int)<(n:Int):=by omega
 have h2:¬12<n:=by omega
 have hn1:1≤n:=by omega
 clear h00 HT
 go_enter Tryz.func120,Tryz.ntmps120
 go_wp2_with fail
 go_loopw [17] (fun i wr=>∃ (k:Nat),k≤n∧i=.int .i64 k∧Hid ((k<n→Prn.okP (t.drop k)=R)∧(k=n→R=true))∧Hid (Below w.heap.size w wr)) (fun i _=>n - (intOf i).toNat)
 case atStart=>exact ⟨0,by omega,rfl,Lib.hid ⟨fun _=>HR.out,fun h=>by omega⟩,Lib.hid (Below.refl _ _)⟩
 case round =>
  obtain ⟨k,hk,rfl,HK,HB⟩:=hrel
  obtain ⟨V,rfl⟩:∃ w',w'=wr:=⟨_,rfl⟩
  have ik0:(0:Int)≤(k:Int):=by omega
  by_cases hlt:k<n
  case neg =>
   obtain rfl:k=n:=by omega
   have hRt:=HK.out.2 rfl
   have HRO:Hid (Prn.okP t=true):=Lib.hid (by rw [HR.out];exact hRt)
   have HE:Hid (Prn.jn (t.map Prn.sortW)=T):=Lib.hid (by rw [←HTT.out,if_pos hRt])
   have hbs:=HB.out.size
   clear hRt HK
   go_upto_region 24 with (fail)
   refine wp_named (fun W2 hW=>?_)
   obtain ⟨hbx,hqx,-⟩:=fresh_box hW
   have HP:=Lib.hid (Prn.Put.start (w0:=V) (b:=V.heap.size) (L:=[]) hbx ⟨Nat.le_refl _,hbx.size,_,hqx,ERow.nil _ _ _ _ _⟩)
   clear hW hqx
   have HB2:=Lib.hid (HB.out.trans (hbx.mono hbs))
   clear hbx
   go_wp2_with fail
   refine (pwsorts_any V.heap.size _ t _ V W2 HP.out.bel HP.out.wr (fun w' hb _=>ERow.below (ERow.below HS.out HB.out (fun _ _ h=>h)) hb (fun _ _ h=>h)) (by simp only [List.length_nil,List.length_append,←HN.out];omega)).mono ?_
   rintro e W3 ⟨rfl,hp⟩
   have HP3:=Lib.hid (HP.out.step hp)
   clear hp
   go_wp2_with fail
   have hjl:=Prn.jl_le (Prn.sorts_size HRO.out)
   rw [List.length_map,←HN.out] at hjl
   refine (pwtext_any V.heap.size (t.map Prn.sortW) V.heap.size W3 (by have h:=HP3.out.wr;rw [List.nil_append,List.nil_append] at h;exact h) (by simp only [List.length_map,←HN.out];omega) (by omega)).mono ?_
   rw [HE.out]
   rintro e W4 ⟨rfl,hb4⟩
   have HB4:=Lib.hid (HB.out.trans ((HP3.out.bel.trans (hb4.mono HP3.out.bel.size)).mono hbs))
   clear hb4 hjl
   go_wp2_with fail
   go_ret
   exact ⟨rfl,HB4.out⟩
  have hka:k<t.length:=by rw [←HN.out];exact hlt
  have hK:=HK.out.1 hlt
  obtain ⟨g,off,cs,rfl,-,e1,hc⟩:=ERow.get HS.out hka (by omega)
  have HX:Hid ((k+1<n→Prn.okP (t.drop k)=(Chk.mid t[k]&&Prn.okP (t.drop (k+1))))∧(k+1=n→Prn.okP (t.drop k)=Prn.finP t[k])):=Lib.hid ⟨fun h=>Prn.okP_drop (by rw [←HN.out];exact h),fun h=>Prn.okP_last (by rw [←HN.out];exact h)⟩
  obtain ⟨⟨yk,yn⟩,Hy⟩:∃ y,Hid (t[k]=y):=⟨_,Lib.hid rfl⟩
  rw [hK,Hy.out] at HX
  rw [Hy.out] at e1
  unfold Id.SortE Id.Srt.cells at e1
  subst e1
  have a0:=hc 0 _ rfl
  have a1:=hc 1 _ rfl
  simp only [Nat.add_zero] at a0
  have hgl:g<w.heap.size:=World.block_lt_of_cell? w _ a0
  have a0:=(HB.out.cell hgl).trans a0
  have a1:=(HB.out.cell hgl).trans a1
  have hbs:=HB.out.size
  have hgne:¬g=V.heap.size:=by omega
  have ik1:(k:Int)<(n:Int):=by omega
  clear hc Hy hka hK HK
  go_upto_region 6 with (fail)
  refine wp_named (fun V1 hW=>?_)
  obtain ⟨hbx,hqx,-⟩:=fresh_box hW
  have HB1:=Lib.hid (HB.out.trans (hbx.mono hbs))
  obtain ⟨⟨b0,b1⟩,-⟩:=hqx.k2
  clear hW hbx hqx a0 a1 HB
  by_cases hl:k+1=n
  case pos =>
   have hf:=HX.out.2 hl
   have HFN:=Lib.hid hf
   have l1:((k:Int)==(n:Int) - 1)=true:=by rw [beq_iff_eq];omega
   have l2:(k:Int)=(n:Int) - 1:=by omega
   clear hf
   by_cases h5:yk=5
   case pos =>
    subst h5
    have HE:Hid (T=⟨#[]⟩):=Lib.hid (HNO.out (HFN.out.trans rfl))
    clear HX
    go_wp2_with fail
    go_ret
    exact ⟨by rw [HE.out];rfl,HB1.out⟩
   by_cases h6:yk=6
   case pos =>
    subst h6
    have HE:Hid (T=⟨#[]⟩):=Lib.hid (HNO.out (HFN.out.trans rfl))
    clear HX
    go_wp2_with fail
    go_ret
    exact ⟨by rw [HE.out];rfl,HB1.out⟩
   by_cases h1:yk=1
   case pos =>
    subst h1
    have hf:R=yn.toList.isEmpty:=HFN.out
    cases hne:yn.toList.isEmpty
    case false =>
     have HE:Hid (T=⟨#[]⟩):=Lib.hid (HNO.out (hf.trans hne))
     clear HX
     go_wp2_with fail
     go_ret
     exact ⟨by rw [HE.out];rfl,HB1.out⟩
    have hRt:R=true:=hf.trans hne
    clear hf
    have HK2:Hid ((k+1<n→Prn.okP (t.drop (k+1))=R)∧(k+1=n→R=true)):=Lib.hid (⟨fun h=>by omega,fun _=>hRt⟩)
    clear HX
    go_wp2_with fail
    go_roundw
    case rel=>exact ⟨k+1,by omega,by go_num,HK2,HB1⟩
    case measure=>simp [intOf] <;> omega
   by_cases h2:yk=2
   case pos =>
    subst h2
    have hf:R=yn.toList.isEmpty:=HFN.out
    cases hne:yn.toList.isEmpty
    case false =>
     have HE:Hid (T=⟨#[]⟩):=Lib.hid (HNO.out (hf.trans hne))
     clear HX
     go_wp2_with fail
     go_ret
     exact ⟨by rw [HE.out];rfl,HB1.out⟩
    have hRt:R=true:=hf.trans hne
    clear hf
    have HK2:Hid ((k+1<n→Prn.okP (t.drop (k+1))=R)∧(k+1=n→R=true)):=Lib.hid (⟨fun h=>by omega,fun _=>hRt⟩)
    clear HX
    go_wp2_with fail
    go_roundw
    case rel=>exact ⟨k+1,by omega,by go_num,HK2,HB1⟩
    case measure=>simp [intOf] <;> omega
   by_cases h3:yk=3
   case pos =>
    subst h3
    have hf:R=yn.toList.isEmpty:=HFN.out
    cases hne:yn.toList.isEmpty
    case false =>
     have HE:Hid (T=⟨#[]⟩):=Lib.hid (HNO.out (hf.trans hne))
     clear HX
     go_wp2_with fail
     go_ret
     exact ⟨by rw [HE.out];rfl,HB1.out⟩
    have hRt:R=true:=hf.trans hne
    clear hf
    have HK2:Hid ((k+1<n→Prn.okP (t.drop (k+1))=R)∧(k+1=n→R=true)):=Lib.hid (⟨fun h=>by omega,fun _=>hRt⟩)
    clear HX
    go_wp2_with fail
    go_roundw
    case rel=>exact ⟨k+1,by omega,by go_num,HK2,HB1⟩
    case measure=>simp [intOf] <;> omega
   by_cases h4:yk=4
   case pos =>
    subst h4
    have hf:R=yn.toList.isEmpty:=HFN.out
    cases hne:yn.toList.isEmpty
    case false =>
     have HE:Hid (T=⟨#[]⟩):=Lib.hid (HNO.out (hf.trans hne))
     clear HX
     go_wp2_with fail
     go_ret
     exact ⟨by rw [HE.out];rfl,HB1.out⟩
    have hRt:R=true:=hf.trans hne
    clear hf
    have HK2:Hid ((k+1<n→Prn.okP (t.drop (k+1))=R)∧(k+1=n→R=true)):=Lib.hid (⟨fun h=>by omega,fun _=>hRt⟩)
    clear HX
    go_wp2_with fail
    go_roundw
    case rel=>exact ⟨k+1,by omega,by go_num,HK2,HB1⟩
    case measure=>simp [intOf] <;> omega
   by_cases h7:yk=7
   case pos =>
    subst h7
    have HF7:Hid (R=Tk.isName yn):=Lib.hid HFN.out
    obtain ⟨b,HBN⟩:∃ b,Hid (Tk.isName yn=b):=⟨_,Lib.hid rfl⟩
    go_wp2_with fail
    refine (name_any yn _ (HKW.out.below HB1.out)).mono ?_
    rw [HBN.out]
    rintro e V2 ⟨rfl,hb2⟩
    have HBz:=Lib.hid (HB1.out.trans (hb2.mono HB1.out.size))
    clear hb2 b0 b1
    cases b
    case false =>
     have HE:Hid (T=⟨#[]⟩):=Lib.hid (HNO.out (HF7.out.trans HBN.out))
     go_wp2_with fail
     go_ret
     exact ⟨by rw [HE.out];rfl,HBz.out⟩
    have hRt:R=true:=HF7.out.trans HBN.out
    have HK2:Hid ((k+1<n→Prn.okP (t.drop (k+1))=R)∧(k+1=n→R=true)):=Lib.hid (⟨fun h=>by omega,fun _=>hRt⟩)
    clear HX
    go_wp2_with fail
    go_roundw
    case rel=>exact ⟨k+1,by omega,by go_num,HK2,HBz⟩
    case measure=>simp [intOf] <;> omega
   have hRf:R=false:=by rw [HFN.out];unfold Prn.finP;simp only [h1,h2,h3,h4,h7,false_or,or_self,if_false]
   have t5:((yk:Int)==5)=false:=by rw [beq_eq_false_iff_ne];omega
   have t6:((yk:Int)==6)=false:=by rw [beq_eq_false_iff_ne];omega
   have t1:((yk:Int)==1)=false:=by rw [beq_eq_false_iff_ne];omega
   have t2:((yk:Int)==2)=false:=by rw [beq_eq_false_iff_ne];omega
   have t3:((yk:Int)==3)=false:=by rw [beq_eq_false_iff_ne];omega
   have t4:((yk:Int)==4)=false:=by rw [beq_eq_false_iff_ne];omega
   have t7:((yk:Int)==7)=false:=by rw [beq_eq_false_iff_ne];omega
   have HRF:=Lib.hid hRf
   clear hRf h5 h6 h1 h2 h3 h4 h7
   have HE:Hid (T=⟨#[]⟩):=Lib.hid (HNO.out (HRF.out))
   clear HX
   go_wp2_with fail
   go_ret
   exact ⟨by rw [HE.out];rfl,HB1.out⟩
  have hf:=HX.out.1 (by omega)
  have HFN:=Lib.hid hf
  have l1:((k:Int)==(n:Int) - 1)=false:=by rw [beq_eq_false_iff_ne];omega
  have l2:¬(k:Int)=(n:Int) - 1:=by omega
  clear hf
  by_cases h5:yk=5
  case pos =>
   subst h5
   have hf:R=(yn.toList.isEmpty&&Prn.okP (t.drop (k+1))):=HFN.out
   cases hne:yn.toList.isEmpty
   case false =>
    have HE:Hid (T=⟨#[]⟩):=Lib.hid (HNO.out (by rw [hf,hne];rfl))
    clear HX
    go_wp2_with fail
    go_ret
    exact ⟨by rw [HE.out];rfl,HB1.out⟩
   have HK3:Hid (Prn.okP (t.drop (k+1))=R):=Lib.hid (by rw [hf,hne];rfl)
   clear hf
   have HK2:Hid ((k+1<n→Prn.okP (t.drop (k+1))=R)∧(k+1=n→R=true)):=Lib.hid (⟨fun _=>HK3.out,fun h=>absurd h hl⟩)
   clear HX
   go_wp2_with fail
   go_roundw
   case rel=>exact ⟨k+1,by omega,by go_num,HK2,HB1⟩
   case measure=>simp [intOf] <;> omega
  by_cases h6:yk=6
  case pos =>
   subst h6
   have hf:R=(yn.toList.isEmpty&&Prn.okP (t.drop (k+1))):=HFN.out
   cases hne:yn.toList.isEmpty
   case false =>
    have HE:Hid (T=⟨#[]⟩):=Lib.hid (HNO.out (by rw [hf,hne];rfl))
    clear HX
    go_wp2_with fail
    go_ret
    exact ⟨by rw [HE.out];rfl,HB1.out⟩
   have HK3:Hid (Prn.okP (t.drop (k+1))=R):=Lib.hid (by rw [hf,hne];rfl)
   clear hf
   have HK2:Hid ((k+1<n→Prn.okP (t.drop (k+1))=R)∧(k+1=n→R=true)):=Lib.hid (⟨fun _=>HK3.out,fun h=>absurd h hl⟩)
   clear HX
   go_wp2_with fail
   go_roundw
   case rel=>exact ⟨k+1,by omega,by go_num,HK2,HB1⟩
   case measure=>simp [intOf] <;> omega
  have HRF:Hid (R=false):=Lib.hid (by rw [HFN.out];unfold Chk.mid;simp [h5,h6])
  by_cases h1:yk=1
  case pos =>
   subst h1
   have HE:Hid (T=⟨#[]⟩):=Lib.hid (HNO.out (HRF.out))
   clear HX
   go_wp2_with fail
   go_ret
   exact ⟨by rw [HE.out];rfl,HB1.out⟩
  by_cases h2:yk=2
  case pos =>
   subst h2
   have HE:Hid (T=⟨#[]⟩):=Lib.hid (HNO.out (HRF.out))
   clear HX
   go_wp2_with fail
   go_ret
   exact ⟨by rw [HE.out];rfl,HB1.out⟩
  by_cases h3:yk=3
  case pos =>
   subst h3
   have HE:Hid (T=⟨#[]⟩):=Lib.hid (HNO.out (HRF.out))
   clear HX
   go_wp2_with fail
   go_ret
   exact ⟨by rw [HE.out];rfl,HB1.out⟩
  by_cases h4:yk=4
  case pos =>
   subst h4
   have HE:Hid (T=⟨#[]⟩):=Lib.hid (HNO.out (HRF.out))
   clear HX
   go_wp2_with fail
   go_ret
   exact ⟨by rw [HE.out];rfl,HB1.out⟩
  by_cases h7:yk=7
  case pos =>
   subst h7
   have HE:Hid (T=⟨#[]⟩):=Lib.hid (HNO.out (HRF.out))
   clear HX
   go_wp2_with fail
   go_ret
   exact ⟨by rw [HE.out];rfl,HB1.out⟩
  have t5:((yk:Int)==5)=false:=by rw [beq_eq_false_iff_ne];omega
  have t6:((yk:Int)==6)=false:=by rw [beq_eq_false_iff_ne];omega
  have t1:((yk:Int)==1)=false:=by rw [beq_eq_false_iff_ne];omega
  have t2:((yk:Int)==2)=false:=by rw [beq_eq_false_iff_ne];omega
  have t3:((yk:Int)==3)=false:=by rw [beq_eq_false_iff_ne];omega
  have t4:((yk:Int)==4)=false:=by rw [beq_eq_false_iff_ne];omega
  have t7:((yk:Int)==7)=false:=by rw [beq_eq_false_iff_ne];omega
  clear h5 h6 h1 h2 h3 h4 h7
  have HE:Hid (T=⟨#[]⟩):=Lib.hid (HNO.out (HRF.out))
  clear HX
  go_wp2_with fail
  go_ret
  exact ⟨by rw [HE.out];rfl,HB1.out⟩
end Go.Proofs.YtogijkhenihaaaaGreatDoor
set_option linter.unusedVariables false
set_option linter.unusedSimpArgs false
namespace Go.Proofs.YtogijkhenihaaaaGreatDoor
namespace Prn
open Go.Proofs.YtogijkhenihaaaaGreatDoor.Id Go.Proofs.YtogijkhenihaaaaGreatDoor.Chk
theorem type_of {s:ByteArray} {l:List Tk.Tok} {a:Nat} {x:List Srt} (ht:Tk.all s=(l,a,0)) (hr:sorts (l,false)=(x,([],false))):Id.type s=(x,0,0):=whole_good ht hr
theorem type_text {t:List Srt} (h:okP t=true) (hl:t.length≤12):Id.type (jn (t.map sortW))=(t,0,0):=by
 have ho:Owns (t.map sortT):=fun u hu=>by
  obtain ⟨x,hx,rfl⟩:=List.mem_map.1 hu
  exact own_sorts h x hx
 have hsz:(jn (t.map sortW)).size≤65536:=by
  rw [jn_size]
  have:=jl_le (sorts_size h)
  rw [List.length_map] at this
  omega
 have ha:=all_text ho (by rw [tx_sorts];exact hsz)
 rw [tx_sorts] at ha
 have hr:=sorts_ok h []
 rw [List.append_nil] at hr
 exact type_of ha (read_placed sorts_z (at_sorts t) hr)
end Prn
end Go.Proofs.YtogijkhenihaaaaGreatDoor
set_option linter.unusedVariables false
set_option linter.unusedSimpArgs false
namespace Go.Proofs.YtogijkhenihaaaaGreatDoor
open Go.RowKit Go.BigFrame
namespace Vl
open Go.Proofs.YtogijkhenihaaaaGreatDoor.Id Go.Proofs.YtogijkhenihaaaaGreatDoor.Chk
structure Node where
 kind:Nat
 int:Int
 text:ByteArray
 kids:Int
def Node.cells (n:Node):List Value:=[.int .u8 n.kind,.int .i64 n.int,.string n.text,.int .i64 n.kids]
def NodE (w:World) (cs:List Value) (n:Node):Prop:=cs=n.cells
def ValR (w:World) (B:Option Nat) (v:Value) (l:List Node):Prop:=ERow w B 92 4 NodE v l
/-- A part without others. -/
def leaf (k:Nat) (n:Node):Bool:=n.kind==k&&(n.kids==0)&&(n.int==0||k==3||(k==2&&n.int==1))&&(n.text.toList.isEmpty||k==4)
def kidsRec (r:Rec) (n:Node):Option (List (List Srt)) :=
 if r.choice=true then
  if n.kind=8∧n.text.toList.isEmpty=true∧n.kids=1∧0≤n.int∧n.int<r.fields.length then some [(r.fields.map (·.type)).getD n.int.toNat []] else none
 else if n.kind=7∧n.int=0∧n.text.toList.isEmpty=true∧n.kids=r.fields.length then some (r.fields.map (·.type)) else none
/-- How many parts a list, or an opt, may have. -/
def wlim (lim k:Nat):Nat:=if k=6 then 1 else lim
def kidsWrap (lim k:Nat) (t:List Srt) (n:Node):Option (List (List Srt)) :=
 if n.kind=k∧n.int=0∧n.text.toList.isEmpty=true∧0≤n.kids∧n.kids≤(wlim lim k:Int) then some (List.replicate n.kids.toNat t) else none
def kidsOf (s:Sch) (lim:Nat) (x:Srt) (t:List Srt) (n:Node):Option (List (List Srt)) :=
 if x.kind=5∨x.kind=6 then kidsWrap lim x.kind t n else kidsRec ((find s x.name).getD recZ) n
def manyF (f:List Srt→List Node→Option (Nat × List Node)):List (List Srt)→Nat→List Node→Option (Nat × List Node)
 | [],d,r=>some (d,r)
 | t::ts,d,r=>match f t r with
  | none=>none
  | some p=>manyF f ts (max d p.1) p.2
def up (p:Option (Nat × List Node)):Option (Nat × List Node):=p.map fun p=>(p.1+1,p.2)
def stepK (o:Option (List (List Srt))) (f:List Srt→List Node→Option (Nat × List Node)) (r:List Node):Option (Nat × List Node):=match o with
 | none=>none
 | some ks=>up (manyF f ks 0 r)
/-- A value of a type, taken of the parts: its depth, and what is left. lim: how many parts a list may have (none: those left). -/
def ofF (s:Sch) (lim:Option Nat):Nat→List Srt→List Node→Option (Nat × List Node)
 | 0,_,_=>none
 | _+1,[],_=>none
 | _+1,_::_,[]=>none
 | k+1,x::t,n::r =>
  if x.kind=1∨x.kind=2∨x.kind=3∨x.kind=4 then (if leaf x.kind n=true then some (1,r) else none)
  else stepK (kidsOf s (lim.getD r.length) x t n) (ofF s lim k) r
/-- The parts that so many wholes take. -/
def endL (N:Nat):Nat→List Node→Option (List Node)
 | 0,r=>some r
 | _+1,[]=>none
 | l+1,n::r=>if 0≤n.kids∧n.kids≤N then endL N (l+n.kids.toNat) r else none
def size (v:List Node):Nat:=v.length+(v.map (·.text.size)).sum
noncomputable def fits (s:Sch) (t:List Srt) (v:List Node):Nat :=
 if (check s).2≠0 then (check s).2 else if right s t=false then 131 else
 match ofF s none (v.length+1) t v with
 | none=>150
 | some p=>if p.2.length≠0 then 150 else if 12<p.1 then 151 else if 4096<size v then 3 else 0
def fieldL (N:Nat) (fn:ByteArray):List Fld→List Node→Option (List Node)
 | [],_=>none
 | f::fs,r=>match endL N 1 r with
  | none=>none
  | some r'=>if (f.name.toList==fn.toList)=true then some (r.take (r.length - r'.length)) else fieldL N fn fs r'
def nmd (rn:ByteArray):List Srt:=[⟨7,rn⟩]
noncomputable def field (s:Sch) (rn:ByteArray) (v:List Node) (fn:ByteArray):Option (List Node) :=
 match find s rn with
 | none=>none
 | some r=>if r.choice=true then none else if fits s (nmd rn) v≠0 then none else fieldL v.length fn r.fields (v.drop 1)
end Vl
end Go.Proofs.YtogijkhenihaaaaGreatDoor
set_option linter.unusedVariables false
set_option linter.unusedSimpArgs false
namespace Go.Proofs.YtogijkhenihaaaaGreatDoor
open Go.RowKit Go.BigFrame
namespace Vl
open Go.Proofs.YtogijkhenihaaaaGreatDoor.Id Go.Proofs.YtogijkhenihaaaaGreatDoor.Chk Go.Proofs.YtogijkhenihaaaaGreatDoor.Prn
theorem typeP_empty (t:List Srt):(typeP t).toList.isEmpty=!(decide (t.length≤12)&&okP t):=by
 unfold typeP
 by_cases h:t.length≤12∧okP t=true
 ·rw [if_pos h,decide_eq_true h.1,h.2]
  cases he:(jn (t.map sortW)).toList.isEmpty
  ·rfl
  ·exfalso
   have h1:=type_text h.2 h.1
   rw [empty_of he] at h1
   have h2:(Id.type (⟨#[]⟩:ByteArray)).2.2=120:=by decide +kernel
   rw [h1] at h2
   cases h2
 ·rw [if_neg h]
  have:(decide (t.length≤12)&&okP t)=false:=by
   rw [Bool.eq_false_iff]
   intro h2
   rw [Bool.and_eq_true,decide_eq_true_eq] at h2
   exact h h2
  rw [this]
  decide +kernel
/-- The last sort's name is there. -/
def lastOk (s:Sch) (t:List Srt):Bool:=match t.getLast? with
 | none=>false
 | some x=>x.kind != 7||(find s x.name).isSome
theorem find_name {s:Sch} {n:ByteArray} {r:Rec} (h:find s n=some r):r∈s.records∧r.name=n:=by
 unfold find at h
 refine ⟨List.mem_of_find?_eq_some h,Tk.text_eq ?_⟩
 have:=List.find?_some h
 simpa using this
theorem fin_last {s:Sch} (h:Right s) (x:Srt):fin s x=(finP x&&(x.kind != 7||(find s x.name).isSome)):=by
 unfold fin finP
 by_cases h1:x.kind=1∨x.kind=2∨x.kind=3∨x.kind=4
 ·rw [if_pos h1,if_pos h1,show (x.kind != 7)=true by rw [bne_iff_ne];omega]
  simp
 ·rw [if_neg h1,if_neg h1]
  by_cases h7:x.kind=7
  ·rw [if_pos h7,if_pos h7,show (x.kind != 7)=false by rw [h7];rfl,Bool.false_or]
   cases hf:find s x.name with
   | none=>simp
   | some r =>
    obtain ⟨hr,hn⟩:=find_name hf
    have:=(ok_of_right h).rn r hr
    rw [hn] at this
    rw [this]
    rfl
  ·rw [if_neg h7,if_neg h7,Bool.false_and]
theorem okT_last {s:Sch} (h:Right s):∀ t:List Srt,okT s t=(okP t&&lastOk s t)
 | []=>rfl
 | [x]=>fin_last h x
 | x::y::l=>by
  show (mid x&&okT s (y::l))=(mid x&&okP (y::l)&&lastOk s (x::y::l))
  rw [okT_last h (y::l),Bool.and_assoc]
  rfl
theorem right_typeP {s:Sch} (h:Right s) (t:List Srt):right s t=(!(typeP t).toList.isEmpty&&lastOk s t):=by
 rw [typeP_empty,Bool.not_not]
 unfold right
 rw [okT_last h,Bool.and_assoc]
/-- The last record of a name. -/
def lastR (rs:List Rec) (n:ByteArray):Rec:=(rs.reverse.find? fun r=>r.name.toList==n.toList).getD recZ
/-- Types of a right schema's fields, and types within a type, are right. -/
theorem okT_tail {s:Sch} {x:Srt} {t:List Srt} (h:okT s (x::t)=true) (hx:x.kind=5∨x.kind=6):okT s t=true:=by
 cases t with
 | nil =>
  have h:fin s x=true:=h
  unfold fin at h
  rw [if_neg (by omega),if_neg (by omega)] at h
  cases h
 | cons y l =>
  have h:(mid x&&okT s (y::l))=true:=h
  rw [Bool.and_eq_true] at h
  exact h.2
theorem okT_kind {s:Sch} {x:Srt} {t:List Srt} (h:okT s (x::t)=true):(x.kind=1∨x.kind=2∨x.kind=3∨x.kind=4)∨x.kind=5∨x.kind=6∨(x.kind=7∧t=[]∧(find s x.name).isSome=true):=by
 cases t with
 | nil =>
  have h:fin s x=true:=h
  unfold fin at h
  by_cases h1:x.kind=1∨x.kind=2∨x.kind=3∨x.kind=4
  ·exact .inl h1
  ·rw [if_neg h1] at h
   by_cases h7:x.kind=7
   ·rw [if_pos h7] at h
    exact .inr (.inr (.inr ⟨h7,rfl,h⟩))
   ·rw [if_neg h7] at h
    cases h
 | cons y l =>
  have h:(mid x&&okT s (y::l))=true:=h
  rw [Bool.and_eq_true] at h
  have:=h.1
  unfold mid at this
  simp only [Bool.and_eq_true,Bool.or_eq_true,beq_iff_eq] at this
  omega
theorem okT_ne {s:Sch} {t:List Srt} (h:okT s t=true):t≠[]:=fun e=>by subst e;cases h
theorem right_okT {s:Sch} {t:List Srt} (h:right s t=true):okT s t=true∧t.length≤12:=by
 unfold right at h
 rw [Bool.and_eq_true,decide_eq_true_eq] at h
 exact ⟨h.2,h.1⟩
theorem field_right {s:Sch} (h:Right s) {r:Rec} (hr:r∈s.records) {f:Fld} (hf:f∈r.fields):right s f.type=true:=by
 have ht:=(right_iff.1 h).2.2.2.1
 exact ht (right s f.type,Chk.part r.name f.name) (List.mem_append_left _ (List.mem_flatMap.2 ⟨r,hr,List.mem_flatMap.2 ⟨f,hf,by simp [typesF]⟩⟩))
def docV (v:List Node):Option (Nat × List Node)→Int × Nat
 | none=>(-1,0)
 | some p=>((v.length:Int) - p.2.length,p.1)
def deep:Option (Nat × List Node)→Nat
 | none=>0
 | some p=>p.1
end Vl
end Go.Proofs.YtogijkhenihaaaaGreatDoor
set_option linter.unusedVariables false
set_option linter.unusedSimpArgs false
namespace Go.Proofs.YtogijkhenihaaaaGreatDoor
open Go.RowKit Go.BigFrame
namespace Vl
open Go.Proofs.YtogijkhenihaaaaGreatDoor.Id Go.Proofs.YtogijkhenihaaaaGreatDoor.Chk Go.Proofs.YtogijkhenihaaaaGreatDoor.Prn
end Vl
end Go.Proofs.YtogijkhenihaaaaGreatDoor
set_option linter.unusedVariables false
set_option linter.unusedSimpArgs false
namespace Go.Proofs.YtogijkhenihaaaaGreatDoor
open Go.RowKit Go.BigFrame
namespace Vl
open Go.Proofs.YtogijkhenihaaaaGreatDoor.Id Go.Proofs.YtogijkhenihaaaaGreatDoor.Chk Go.Proofs.YtogijkhenihaaaaGreatDoor.Prn
def lvQ (p:List Srt→Bool) (r:Rec):Bool:=if r.choice then r.fields.any (fun f=>p f.type) else r.fields.all (fun f=>p f.type)
/-- Is there a value of a type that is at most so deep? -/
def lvT (s:Sch):Nat→List Srt→Bool
 | 0,_=>false
 | _+1,[]=>false
 | d+1,x::_=>if x.kind=7 then (match find s x.name with | none=>false | some r=>lvQ (lvT s d) r) else true
theorem lvQ_mono {p q:List Srt→Bool} (h:∀ t,p t=true→q t=true) {r:Rec} (hr:lvQ p r=true):lvQ q r=true:=by
 unfold lvQ at hr ⊢
 split at hr
 ·rename_i hc
  rw [if_pos hc]
  obtain ⟨f,hf,hp⟩:=List.any_eq_true.1 hr
  exact List.any_eq_true.2 ⟨f,hf,h _ hp⟩
 ·rename_i hc
  rw [if_neg hc]
  exact List.all_eq_true.2 fun f hf=>h _ (List.all_eq_true.1 hr f hf)
theorem lvT_succ {s:Sch}:∀ (d:Nat) (t:List Srt),lvT s d t=true→lvT s (d+1) t=true
 | 0,t,h=>by unfold lvT at h;cases h
 | d+1,[],h=>by unfold lvT at h;cases h
 | d+1,x::t,h=>by
  unfold lvT at h ⊢
  split at h
  ·rename_i h7
   rw [if_pos h7]
   split at h
   ·cases h
   ·exact lvQ_mono (lvT_succ d) h
  ·rename_i h7
   rw [if_neg h7]
theorem lvT_mono {s:Sch} {d e:Nat} (hde:d≤e) {t:List Srt} (h:lvT s d t=true):lvT s e t=true:=by
 induction e with
 | zero =>
  obtain rfl:d=0:=by omega
  exact h
 | succ e ih =>
  by_cases hd:d=e+1
  ·subst hd;exact h
  ·exact lvT_succ _ _ (ih (by omega))
/-- Depths as they are known: of each name, 0 if none is. -/
abbrev Kn:=ByteArray→Nat
def dpt (kn:Kn) (t:List Srt):Nat:=match t with
 | []=>0
 | x::_=>if x.kind=7 then kn x.name else 1
structure LstS where
 best:Nat
 worst:Nat
 miss:Bool
def lstStep (kn:Kn) (a:LstS) (f:Fld):LstS :=
 ⟨if 0<dpt kn f.type∧(a.best=0∨dpt kn f.type<a.best) then dpt kn f.type else a.best,max a.worst (dpt kn f.type),a.miss||dpt kn f.type==0⟩
def lstF (kn:Kn) (r:Rec):LstS:=r.fields.foldl (lstStep kn) ⟨0,0,false⟩
def lstD (kn:Kn) (r:Rec):Nat × Bool:=if r.choice then ((lstF kn r).best+1,decide (0<(lstF kn r).best)) else ((lstF kn r).worst+1,!(lstF kn r).miss)
/-- What the fold finds. -/
theorem lst_fold (kn:Kn):∀ (l:List Fld) (a:LstS),
  (∀ d,(l.foldl (lstStep kn) a).worst≤d↔a.worst≤d∧∀ f∈l,dpt kn f.type≤d) ∧
  ((l.foldl (lstStep kn) a).miss=true↔a.miss=true∨∃ f∈l,dpt kn f.type=0) ∧
  ((l.foldl (lstStep kn) a).best=0↔a.best=0∧∀ f∈l,dpt kn f.type=0) ∧
  (∀ f∈l,dpt kn f.type≠0→(l.foldl (lstStep kn) a).best≤dpt kn f.type) ∧
  (a.best≠0→(l.foldl (lstStep kn) a).best≤a.best) ∧
  ((l.foldl (lstStep kn) a).best≠a.best→∃ f∈l,dpt kn f.type=(l.foldl (lstStep kn) a).best)
 | [],a=>by simp
 | f::l,a=>by
  obtain ⟨h1,h2,h3,h4,h5,h6⟩:=lst_fold kn l (lstStep kn a f)
  rw [List.foldl_cons]
  have hb:(lstStep kn a f).best=if 0<dpt kn f.type∧(a.best=0∨dpt kn f.type<a.best) then dpt kn f.type else a.best:=rfl
  have hw:(lstStep kn a f).worst=max a.worst (dpt kn f.type):=rfl
  have hm:(lstStep kn a f).miss=(a.miss||dpt kn f.type==0):=rfl
  generalize (l.foldl (lstStep kn) (lstStep kn a f))=b at *
  generalize lstStep kn a f=c at *
  refine ⟨fun d=>?_,?_,?_,?_,?_,?_⟩
  ·rw [h1 d,hw]
   simp only [List.mem_cons,forall_eq_or_imp]
   constructor
   ·rintro ⟨a1,a2⟩;exact ⟨by omega,by omega,a2⟩
   ·rintro ⟨a1,a2,a3⟩;exact ⟨by omega,a3⟩
  ·rw [h2,hm]
   simp only [List.mem_cons,exists_eq_or_imp,Bool.or_eq_true,beq_iff_eq,or_assoc]
  ·rw [h3,hb]
   simp only [List.mem_cons,forall_eq_or_imp]
   split <;> constructor <;> (rintro ⟨a1,a2⟩) <;> first | (exact ⟨by omega,by omega,a2⟩) | (exact ⟨by omega,a2.2⟩) | omega
  ·intro g hg hd
   rcases List.mem_cons.1 hg with rfl | hg
   ·by_cases hc:c.best=0
    ·rw [hb] at hc
     split at hc <;> omega
    ·have:=h5 hc
     rw [hb] at this
     split at this <;> omega
   ·exact h4 g hg hd
  ·intro ha
   by_cases hc:c.best=0
   ·rw [hb] at hc
    split at hc <;> omega
   ·have:=h5 hc
    rw [hb] at this
    split at this <;> omega
  ·intro hne
   by_cases hc:b.best=c.best
   ·refine ⟨f,by simp,?_⟩
    rw [hc,hb]
    rw [hc,hb] at hne
    split at hne
    ·rename_i h;rw [if_pos h]
    ·exact absurd rfl hne
   ·obtain ⟨g,hg,he⟩:=h6 hc
    exact ⟨g,by simp [hg],he⟩
/-- The least depths. -/
def Min (s:Sch) (kn:Kn):Prop:=∀ n,(kn n≠0→lvT s (kn n) [⟨7,n⟩]=true)∧∀ d,lvT s d [⟨7,n⟩]=true→kn n≠0∧kn n≤d
def Sd (s:Sch) (kn:Kn):Prop:=∀ n,kn n≠0→lvT s (kn n) [⟨7,n⟩]=true
theorem lvT_head {s:Sch} {d:Nat} {x:Srt} {t:List Srt}:lvT s d (x::t)=lvT s d [x]:=by
 cases d with
 | zero=>rfl
 | succ d=>rfl
theorem lvT_name {s:Sch} {d:Nat} {x:Srt} (h:x.kind=7):lvT s d [x]=lvT s d [⟨7,x.name⟩]:=by
 obtain ⟨k,n⟩:=x
 simp only at h
 subst h
 rfl
theorem Sd.dpt {s:Sch} {kn:Kn} (h:Sd s kn) {t:List Srt} (hd:dpt kn t≠0):lvT s (dpt kn t) t=true:=by
 cases t with
 | nil=>exact absurd rfl hd
 | cons x t =>
  rw [lvT_head]
  unfold Vl.dpt at hd ⊢
  simp only at hd ⊢
  by_cases h7:x.kind=7
  ·rw [if_pos h7] at hd ⊢
   rw [lvT_name h7]
   exact h _ hd
  ·rw [if_neg h7]
   unfold lvT
   rw [if_neg h7]
theorem Min.dpt {s:Sch} {kn:Kn} (h:Min s kn) {t:List Srt} {d:Nat} (hd:lvT s d t=true):dpt kn t≠0∧dpt kn t≤d:=by
 cases t with
 | nil=>cases d <;> (unfold lvT at hd;cases hd)
 | cons x t =>
  rw [lvT_head] at hd
  unfold Vl.dpt
  simp only
  by_cases h7:x.kind=7
  ·rw [if_pos h7]
   rw [lvT_name h7] at hd
   exact (h _).2 d hd
  ·rw [if_neg h7]
   cases d with
   | zero=>cases hd
   | succ d=>exact ⟨by omega,by omega⟩
/-- A record's least depth is right, as far as others' are. -/
theorem Sd.rec {s:Sch} {kn:Kn} (h:Sd s kn) {n:ByteArray} {r:Rec} (hf:find s n=some r) (ho:(lstD kn r).2=true):lvT s (lstD kn r).1 [⟨7,n⟩]=true:=by
 obtain ⟨h1,h2,h3,h4,h5,h6⟩:=lst_fold kn r.fields ⟨0,0,false⟩
 have e:r.fields.foldl (lstStep kn) ⟨0,0,false⟩=lstF kn r:=rfl
 rw [e] at h1 h2 h3 h4 h5 h6
 unfold lstD at ho ⊢
 cases hc:r.choice
 ·rw [hc] at ho
  simp only [Bool.false_eq_true,if_false] at ho ⊢
  unfold lvT
  simp only [if_true,hf]
  unfold lvQ
  rw [hc]
  simp only [Bool.false_eq_true,if_false]
  refine List.all_eq_true.2 fun f hfm=>?_
  have hm:¬(lstF kn r).miss=true:=by simpa using ho
  rw [h2] at hm
  have hd:Vl.dpt kn f.type≠0:=fun e=>hm (.inr ⟨f,hfm,e⟩)
  exact lvT_mono (((h1 _).1 (Nat.le_refl _)).2 f hfm) (h.dpt hd)
 ·rw [hc] at ho
  simp only [if_true,decide_eq_true_eq] at ho ⊢
  unfold lvT
  simp only [if_true,hf]
  unfold lvQ
  rw [hc]
  simp only [if_true]
  obtain ⟨f,hfm,he⟩:=h6 (by simp only;omega)
  refine List.any_eq_true.2 ⟨f,hfm,?_⟩
  have hd:Vl.dpt kn f.type≠0:=by omega
  have:=h.dpt hd
  rw [he] at this
  exact this
/-- Where nothing changes any more, the depths are the least. -/
def Stop (s:Sch) (kn:Kn):Prop:=∀ r∈s.records,(lstD kn r).2=true→kn r.name≠0∧kn r.name≤(lstD kn r).1
theorem Stop.le {s:Sch} {kn:Kn} (h:Stop s kn):∀ (d:Nat) (t:List Srt),lvT s d t=true→dpt kn t≠0∧dpt kn t≤d
 | 0,t,hl=>by unfold lvT at hl;cases hl
 | d+1,[],hl=>by unfold lvT at hl;cases hl
 | d+1,x::t,hl=>by
  unfold lvT at hl
  unfold dpt
  simp only
  split at hl
  ·rename_i h7
   rw [if_pos h7]
   split at hl
   ·cases hl
   ·rename_i r hr
    obtain ⟨hm,hn⟩:=find_name hr
    obtain ⟨h1,h2,h3,h4,h5,h6⟩:=lst_fold kn r.fields ⟨0,0,false⟩
    have e:r.fields.foldl (lstStep kn) ⟨0,0,false⟩=lstF kn r:=rfl
    rw [e] at h1 h2 h3 h4 h5 h6
    have hs:=h r hm
    rw [hn] at hs
    unfold lstD at hs
    unfold lvQ at hl
    cases hc:r.choice
    ·rw [hc] at hs hl
     simp only [Bool.false_eq_true,if_false] at hs hl
     have ha:=List.all_eq_true.1 hl
     have hmiss:(lstF kn r).miss=false:=by
      rw [Bool.eq_false_iff]
      intro hmi
      rcases h2.1 hmi with e | ⟨f,hf,e⟩
      ·cases e
      ·exact (Stop.le h d f.type (ha f hf)).1 e
     obtain ⟨a1,a2⟩:=hs (by rw [hmiss];rfl)
     refine ⟨a1,Nat.le_trans a2 ?_⟩
     have:=(h1 d).2 ⟨Nat.zero_le _,fun f hf=>(Stop.le h d f.type (ha f hf)).2⟩
     omega
    ·rw [hc] at hs hl
     simp only [if_true,decide_eq_true_eq] at hs hl
     obtain ⟨f,hf,hp⟩:=List.any_eq_true.1 hl
     obtain ⟨b1,b2⟩:=Stop.le h d f.type hp
     have hb:(lstF kn r).best≠0:=fun e=>b1 ((h3.1 e).2 f hf)
     have hb2:=h4 f hf b1
     obtain ⟨a1,a2⟩:=hs (by omega)
     exact ⟨a1,by omega⟩
  ·rename_i h7
   rw [if_neg h7]
   exact ⟨by omega,by omega⟩
theorem Stop.min {s:Sch} {kn:Kn} (h:Stop s kn) (hs:Sd s kn):Min s kn:=fun n=>⟨hs n,fun d hd=>by
 have:=h.le d _ hd
 exact this⟩
end Vl
end Go.Proofs.YtogijkhenihaaaaGreatDoor
set_option linter.unusedVariables false
set_option linter.unusedSimpArgs false
namespace Go.Proofs.YtogijkhenihaaaaGreatDoor
open Go.RowKit Go.BigFrame
namespace Vl
open Go.Proofs.YtogijkhenihaaaaGreatDoor.Id Go.Proofs.YtogijkhenihaaaaGreatDoor.Chk Go.Proofs.YtogijkhenihaaaaGreatDoor.Prn
/-- What the least depths are made of. -/
theorem Min.lst {s:Sch} {kn:Kn} (h:Min s kn) {n:ByteArray} {r:Rec} (hf:find s n=some r) (h0:kn n≠0):(lstD kn r).2=true∧(lstD kn r).1=kn n:=by
 have hs:Sd s kn:=fun m hm=>(h m).1 hm
 have hl:=(h n).1 h0
 obtain ⟨d,hd⟩:∃ d,kn n=d+1:=⟨kn n - 1,by omega⟩
 have key:(lstD kn r).2=true∧(lstD kn r).1≤kn n:=by
  rw [hd] at hl ⊢
  unfold lvT at hl
  simp only [if_true,hf] at hl
  obtain ⟨h1,h2,h3,h4,h5,h6⟩:=lst_fold kn r.fields ⟨0,0,false⟩
  have e:r.fields.foldl (lstStep kn) ⟨0,0,false⟩=lstF kn r:=rfl
  rw [e] at h1 h2 h3 h4 h5 h6
  unfold lvQ at hl
  unfold lstD
  cases hc:r.choice
  ·rw [hc] at hl
   simp only [Bool.false_eq_true,if_false] at hl ⊢
   have ha:=List.all_eq_true.1 hl
   have hmiss:(lstF kn r).miss=false:=by
    rw [Bool.eq_false_iff]
    intro hmi
    rcases h2.1 hmi with e | ⟨f,hf,e⟩
    ·cases e
    ·exact (h.dpt (ha f hf)).1 e
   have:=(h1 d).2 ⟨Nat.zero_le _,fun f hf=>(h.dpt (ha f hf)).2⟩
   exact ⟨by rw [hmiss];rfl,by omega⟩
  ·rw [hc] at hl
   simp only [if_true] at hl ⊢
   obtain ⟨f,hfm,hp⟩:=List.any_eq_true.1 hl
   obtain ⟨b1,b2⟩:=h.dpt hp
   have hb:(lstF kn r).best≠0:=fun e=>b1 ((h3.1 e).2 f hfm)
   have hb2:=h4 f hfm b1
   exact ⟨by rw [decide_eq_true_eq];omega,by omega⟩
 exact ⟨key.1,Nat.le_antisymm key.2 ((h n).2 _ (hs.rec hf key.1)).2⟩
/-- A choice's least way. -/
def way (kn:Kn) (r:Rec) (d:Nat):Nat:=r.fields.findIdx (fun f=>dpt kn f.type==d)
theorem Min.way {s:Sch} {kn:Kn} (h:Min s kn) {n:ByteArray} {r:Rec} (hf:find s n=some r) (h0:kn n≠0) (hc:r.choice=true):way kn r (kn n - 1)<r.fields.length∧1<kn n:=by
 obtain ⟨h1,h2⟩:=h.lst hf h0
 unfold lstD at h1 h2
 rw [hc] at h1 h2
 simp only [if_true,decide_eq_true_eq] at h1 h2
 obtain ⟨g1,g2,g3,g4,g5,g6⟩:=lst_fold kn r.fields ⟨0,0,false⟩
 have e:r.fields.foldl (lstStep kn) ⟨0,0,false⟩=lstF kn r:=rfl
 rw [e] at g6
 obtain ⟨f,hfm,he⟩:=g6 (by simp only;omega)
 refine ⟨?_,by omega⟩
 unfold Vl.way
 rw [List.findIdx_lt_length]
 exact ⟨f,hfm,by rw [beq_iff_eq,he];omega⟩
end Vl
end Go.Proofs.YtogijkhenihaaaaGreatDoor
set_option linter.unusedVariables false
namespace Go.Proofs.YtogijkhenihaaaaGreatDoor
namespace Ev
/-- What the first bytes of a number tell. -/
def acc (l:List UInt8):Nat→Nat
 | 0=>0
 | i+1=>acc l i ||| ((l.getD i 0).toNat % 128 * 2 ^ (7 * i) % 18446744073709551616)
theorem acc_lt (l:List UInt8):∀ i,acc l i<18446744073709551616
 | 0=>by simp [acc]
 | i+1=>Nat.or_lt_two_pow (n:=64) (acc_lt l i) (Nat.mod_lt _ (by decide))
theorem or_join {a b:Nat} (i:Nat) (ha:a<2 ^ i) (hb:b % 2 ^ i=0):a ||| b=a+b:=by
 have h2:2 ^ i * (b / 2 ^ i)=b:=by have:=Nat.div_add_mod b (2 ^ i);omega
 have h:=Nat.two_pow_add_eq_or_of_lt ha (b / 2 ^ i)
 rw [Nat.or_comm,←h2,←h,Nat.add_comm]
theorem pow128 (i:Nat):(2:Nat) ^ (7 * i)=128 ^ i:=Nat.pow_mul 2 7 i
/-- A number of the first bytes, the lowest one first. -/
def lit (l:List UInt8):Nat→Nat
 | 0=>0
 | i+1=>lit l i+(l.getD i 0).toNat * 2 ^ (8 * i)
end Ev
end Go.Proofs.YtogijkhenihaaaaGreatDoor
