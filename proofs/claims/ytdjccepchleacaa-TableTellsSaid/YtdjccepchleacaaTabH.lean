/- table.Open. -/
import Derived.Test.YtdjccepchleacaaTabG
set_option linter.unusedVariables false
set_option linter.unusedSimpArgs false
namespace Go.Proofs.Ytdjccepchleacaa
open Go.RowKit Go.BigFrame
namespace Tb
theorem At.below {w w' : World} {base b : Nat} {s : ByteArray} {n : Int} {last : ByteArray} {bs : List Place} (h : At w base b s n last bs) (hb : Below w.heap.size w w') : At w' base b s n last bs := by
  obtain ⟨v, h1, h2, h3⟩ := h
  exact ⟨v, h1.below hb h1.lt, row_below' h2 hb, h3⟩
theorem At.alloc {w : World} {base b : Nat} {s : ByteArray} {n : Int} {last : ByteArray} {bs : List Place} (h : At w base b s n last bs) (o : Obj) : At (w.alloc o) base b s n last bs :=
  h.below ((Below.refl _ _).alloc (Nat.le_refl _) _)
theorem At.lt {w : World} {base b : Nat} {s : ByteArray} {n : Int} {last : ByteArray} {bs : List Place} (h : At w base b s n last bs) : b < w.heap.size := by
  obtain ⟨v, h1, _⟩ := h
  exact h1.lt
theorem At.row {w w' : World} {base b base' size m : Nat} {s : ByteArray} {n : Int} {last : ByteArray} {bs : List Place} {e : TypeId} {v : Value} {xs : List Value} (h : At w base b s n last bs) (hown : w.ownsRow base' e size v m xs) (hT : 72 ≠ e) (hP : 78 ≠ e) (hg : w.grownBy w' v.ownBlock) : At w' base b s n last bs := by
  obtain ⟨u, h1, h2, h3⟩ := h
  refine ⟨u, h1.grown hg (fun e' => ownBlock_ne' hown h1 hT e'.symm), h2.kept hg ?_, h3⟩
  rcases hu : u.ownBlock with _ | k
  · exact .inl rfl
  · right
    intro e'
    rcases h2.2 with ⟨rfl, _⟩ | ⟨g', cap, cur, rfl, hb, hgg, _⟩
    · cases hu
    · simp [Value.ownBlock] at hu
      subst hu
      exact ownBlock_ne' hown hgg hP e'.symm
/-- A row of another type than places', behind 'index'. -/
theorem row_oth {w w' : World} {b base size m : Nat} {e T : TypeId} {v : Value} {xs : List Value} (hown : w.ownsRow base e size v m xs) (h : Bd.Oth T b w w') (hT : e ≠ T) (hb : v.ownBlock ≠ some b) : w'.ownsRow base e size v m xs := by
  refine ⟨hown.1, ?_⟩
  rcases hown.2 with hn | ⟨g, cap, cur, rfl, hbs, hgg, rest⟩
  · exact .inl hn
  · exact .inr ⟨g, cap, cur, rfl, hbs, h g _ _ _ hgg hT (by intro e'; subst e'; exact hb rfl), rest⟩
/-- A table that is opened. -/
def Opened (w : World) (base b : Nat) (s : ByteArray) (l : List Ent) : Prop :=
  ∃ bs last, At w base b s l.length last bs ∧ Good l l.length bs ∧ bs.length ≤ l.length ∧ (∀ x, l.getLast? = some x → last = x.key) ∧ openE s = some l ∧ (l = [] ∨ ∃ E, E ≤ s.size ∧ pos l l.length = E ∧ ∀ j x, l[j]? = some x → readE s (pos l j) E = some (x, pos l (j + 1)))
def OpenP (s : ByteArray) (w : World) (e : Ending) (w' : World) : Prop :=
  Below w.heap.size w w' ∧ match openE s with
    | none => e = .returned (.tuple #[.pointer none, .int .i64 8])
    | some l => ∃ b, w.heap.size ≤ b ∧ e = .returned (.tuple #[.pointer (some ⟨b, 0, none⟩), .int .i64 0]) ∧ Opened w' w.heap.size b s l
theorem openP_none {s : ByteArray} {w w' : World} (h : openE s = none) (hb : Below w.heap.size w w') : OpenP s w (.returned (.tuple #[.pointer none, .int .i64 8])) w' := by
  unfold OpenP
  rw [h]
  exact ⟨hb, rfl⟩
theorem openE_short {s : ByteArray} (h : s.size < 12) : openE s = none := by unfold openE; rw [if_neg (by omega)]
theorem openE_bad {s : ByteArray} (h : ¬ (s.data.toList.take 4 = mark ∧ (s.size : Int) - 4 - 12 = Sm.val4 (s.data.toList.drop 8) ∧ Sm.sumOk s.data.toList = true)) : openE s = none := by
  unfold openE; rw [if_neg (fun h' => h h'.2)]
theorem info_entry : (Try.prog.info? 36).map (fun i => (i.zero, i.size, i.bytes)) = some (some (.agg #[.string ByteArray.empty, .string ByteArray.empty, .bool false]), 3, 40) := by kernel_rfl
def fin (n : Nat) (o : Option (List Ent)) : Option (List Ent) := match o with
  | none => none
  | some l => if l.length = n ∧ right l = 0 then some l else none
theorem prefix_mark (l : List UInt8) : Lib.hasPrefix l [114, 116, 49, 10] = decide (l.take 4 = mark) := by
  unfold Lib.hasPrefix
  rw [Bool.eq_iff_iff, List.isPrefixOf_iff_prefix, decide_eq_true_eq]
  constructor
  · rintro ⟨t, rfl⟩; rfl
  · intro h
    refine ⟨l.drop 4, ?_⟩
    have : l = l.take 4 ++ l.drop 4 := (List.take_append_drop 4 l).symm
    rw [h] at this
    exact this.symm
end Tb
theorem good_starts {s : ByteArray} {n E p : Nat} {pre : List Tb.Ent} {bs : List Tb.Place} (h : Tb.Good pre pre.length bs) (ho : Tb.Opening s n E pre p) : ∀ y ∈ bs, y.start ≤ E := fun y hy => by
  have h1 := Tb.good_start h (Nat.le_refl _) y hy
  have h2 := ho.at_
  have h3 := ho.le
  omega
set_option maxRecDepth 100000 in
set_option maxHeartbeats 4000000 in
theorem topen_any (s : ByteArray) (hs : s.size ≤ 800000000) (w : World) :
    Calls Try.prog 10 #[.string s] w (Tb.OpenP s w) := by
  by_cases h8 : s.size < 12
  · have HN := Lib.hid (Tb.openE_short h8)
    by_cases h4 : s.size < 8
    · go_enter Try.func10, Try.ntmps10
      go_wp2_with fail
      refine (tget_n s (by omega) 4 (by omega) (by omega) _).mono ?_
      rintro r w1 ⟨rfl, hb1⟩
      go_wp2_with fail
      refine (tget_n s (by omega) 8 (by omega) (by omega) _).mono ?_
      rintro r w2 ⟨rfl, hb2⟩
      go_wp2_with fail
      go_ret2
      exact Tb.openP_none HN.out (bl_join hb1 hb2)
    · go_enter Try.func10, Try.ntmps10
      go_wp2_with fail
      refine (tget_y s (by omega) 4 (by omega) _).mono ?_
      rintro r w1 ⟨rfl, hb1⟩
      go_wp2_with fail
      refine (tget_n s (by omega) 8 (by omega) (by omega) _).mono ?_
      rintro r w2 ⟨rfl, hb2⟩
      go_wp2_with fail
      go_ret2
      exact Tb.openP_none HN.out (bl_join hb1 hb2)
  have h8' : 12 ≤ s.size := by omega
  obtain ⟨sz, HSZ⟩ : ∃ x, Hid (Sm.val4 (s.data.toList.drop 8) = x) := ⟨_, Lib.hid rfl⟩
  obtain ⟨n, HNN⟩ : ∃ x, Hid (Sm.val4 (s.data.toList.drop 4) = x) := ⟨_, Lib.hid rfl⟩
  obtain ⟨m, HM⟩ : ∃ x, Hid (decide (s.data.toList.take 4 = Tb.mark) = x) := ⟨_, Lib.hid rfl⟩
  have hnl := HNN.out ▸ Sm.val4_lt (s.data.toList.drop 4)
  have hszl := HSZ.out ▸ Sm.val4_lt (s.data.toList.drop 8)
  cases m
  · have HN : Hid (Tb.openE s = none) := Lib.hid (Tb.openE_bad (fun h => by have := HM.out; simp [h.1] at this))
    go_enter Try.func10, Try.ntmps10
    go_wp2_with fail
    refine (tget_y s (by omega) 4 (by omega) _).mono ?_
    rintro r w1 ⟨rfl, hb1⟩
    rw [HNN.out]
    go_wp2_with fail
    refine (tget_y s (by omega) 8 (by omega) _).mono ?_
    rintro r w2 ⟨rfl, hb2⟩
    rw [HSZ.out]
    go_wp2_with fail
    refine (Try.strings_HasPrefix s ⟨#[114, 116, 49, 10]⟩ _).mono ?_
    rintro r w3 ⟨rfl, rfl⟩
    rw [Tb.prefix_mark, HM.out]
    go_wp2_with fail
    go_ret2
    exact Tb.openP_none HN.out (bl_join hb1 hb2)
  by_cases hsz : (s.size : Int) - 4 - 12 = sz
  case neg =>
    have HN : Hid (Tb.openE s = none) := Lib.hid (Tb.openE_bad (fun h => by have := h.2.1; rw [HSZ.out] at this; exact hsz this))
    have hne : ((s.size : Int) - 4 - 12 != (sz : Int)) = true := by rw [bne_iff_ne]; exact hsz
    go_enter Try.func10, Try.ntmps10
    go_wp2_with fail
    refine (tget_y s (by omega) 4 (by omega) _).mono ?_
    rintro r w1 ⟨rfl, hb1⟩
    rw [HNN.out]
    go_wp2_with fail
    refine (tget_y s (by omega) 8 (by omega) _).mono ?_
    rintro r w2 ⟨rfl, hb2⟩
    rw [HSZ.out]
    go_wp2_with fail
    refine (Try.strings_HasPrefix s ⟨#[114, 116, 49, 10]⟩ _).mono ?_
    rintro r w3 ⟨rfl, rfl⟩
    rw [Tb.prefix_mark, HM.out]
    go_wp2_with fail
    go_ret2
    exact Tb.openP_none HN.out (bl_join hb1 hb2)
  obtain ⟨E, hE0⟩ : ∃ E, s.size = E + 4 := ⟨s.size - 4, by omega⟩
  have hE12 : 12 ≤ E := by omega
  have hE : (s.size : Int) - 4 = (E : Int) := by omega
  have hEs : E ≤ s.size := by omega
  have hEs2 : (E : Int) ≤ (s.size : Int) := by omega
  have hsz2 : ((E : Int) - 12 != (sz : Int)) = false := by rw [bne_eq_false_iff_eq]; omega
  have HSZ2 := Lib.hid hsz
  have HE0 := Lib.hid hE0
  obtain ⟨cr, HCR⟩ : ∃ x, Hid (Sm.val4 (s.data.toList.drop E) = x) := ⟨_, Lib.hid rfl⟩
  obtain ⟨cc, HCC⟩ : ∃ x, Hid (Sm.crc (s.data.toList.take E) = x) := ⟨_, Lib.hid rfl⟩
  have hcl := HCC.out ▸ Sm.crc_lt (s.data.toList.take E)
  have hcrl := HCR.out ▸ Sm.val4_lt (s.data.toList.drop E)
  have HXC : Hid (Sm.crc (s.extract 0 E).data.toList = cc) := Lib.hid (by rw [Lib.extract_data]; simp only [List.drop_zero, Nat.sub_zero]; exact HCC.out)
  have hexs : (s.extract 0 E).size ≤ maxLen := by unfold maxLen; simp; omega
  have HOK : Hid (Sm.sumOk s.data.toList = decide (cc = cr)) := Lib.hid (by
    unfold Sm.sumOk
    have e1 : s.data.toList.length = E + 4 := by simp; exact hE0
    rw [e1, Nat.add_sub_cancel, HCC.out, HCR.out, decide_eq_true (by omega)]
    rfl)
  clear hsz hE0
  by_cases hcrc : cc = cr
  case neg =>
    have HN : Hid (Tb.openE s = none) := Lib.hid (Tb.openE_bad (fun h => by have := h.2.2; rw [HOK.out] at this; exact hcrc (of_decide_eq_true this)))
    have hne : ((cr : Int) != (cc : Int)) = true := by rw [bne_iff_ne]; omega
    clear hcrc
    go_enter Try.func10, Try.ntmps10
    go_wp2_with fail
    refine (tget_y s (by omega) 4 (by omega) _).mono ?_
    rintro r w1 ⟨rfl, hb1⟩
    rw [HNN.out]
    go_wp2_with fail
    refine (tget_y s (by omega) 8 (by omega) _).mono ?_
    rintro r w2 ⟨rfl, hb2⟩
    rw [HSZ.out]
    go_wp2_with fail
    refine (Try.strings_HasPrefix s ⟨#[114, 116, 49, 10]⟩ _).mono ?_
    rintro r w3 ⟨rfl, rfl⟩
    rw [Tb.prefix_mark, HM.out]
    go_wp2_with fail
    refine (tget_y s (by omega) E (by omega) _).mono ?_
    rintro r w4 ⟨rfl, hb4⟩
    rw [HCR.out]
    go_wp2_with fail
    refine (crc_any _ hexs _).mono ?_
    rintro r w5 ⟨rfl, hb5⟩
    rw [HXC.out]
    go_wp2_with fail
    go_ret2
    exact Tb.openP_none HN.out (bl_join (bl_join (bl_join hb1 hb2) hb4) hb5)
  subst hcrc
  have HOP : Hid (Tb.openE s = Tb.fin n (Tb.parseF s E n (s.size + 1) 12 0)) := Lib.hid (by
    unfold Tb.openE
    rw [if_pos ⟨h8', by simpa using HM.out, by rw [HSZ.out]; exact HSZ2.out, by rw [HOK.out]; simp⟩, HNN.out, show s.size - 4 = E from by have := HE0.out; omega]
    cases Tb.parseF s E n (s.size + 1) 12 0 <;> rfl)
  clear HOK
  have tcr : ((cc : Int) != (cc : Int)) = false := by simp
  go_enter Try.func10, Try.ntmps10
  go_wp2_with fail
  refine (tget_y s (by omega) 4 (by omega) _).mono ?_
  rintro r w1 ⟨rfl, hb1⟩
  rw [HNN.out]
  go_wp2_with fail
  refine (tget_y s (by omega) 8 (by omega) _).mono ?_
  rintro r w2 ⟨rfl, hb2⟩
  rw [HSZ.out]
  go_wp2_with fail
  refine (Try.strings_HasPrefix s ⟨#[114, 116, 49, 10]⟩ _).mono ?_
  rintro r w3 ⟨rfl, rfl⟩
  rw [Tb.prefix_mark, HM.out]
  go_wp2_with fail
  refine (tget_y s (by omega) E (by omega) _).mono ?_
  rintro r w4 ⟨rfl, hb4⟩
  rw [HCR.out]
  go_wp2_with fail
  refine (crc_any _ hexs _).mono ?_
  rintro r w5 ⟨rfl, hb5⟩
  rw [HXC.out]
  have hB0 := bl_join (bl_join (bl_join hb1 hb2) hb4) hb5
  clear hb1 hb2 hb4 hb5 hsz2 hszl HSZ2 HXC HCR HCC HNN HM HSZ
  have hB0z := hB0.size
  go_wp2_with fail
  go_loopw [12, 13] (fun lv av wr => ∃ (pre : List Tb.Ent) (p : Nat) (bs : List Tb.Place) (last : ByteArray), av = .int .i64 p ∧ Hid (Tb.Opening s n E pre p) ∧ Hid (Tb.Good pre pre.length bs ∧ bs.length ≤ pre.length ∧ (∀ x, pre.getLast? = some x → last = x.key)) ∧ Hid (Tb.Small pre) ∧ Hid (Tb.At wr w.heap.size w5.heap.size s n last bs) ∧ Hid (wr.ownsRow w.heap.size 36 3 lv pre.length (pre.flatMap Tb.Ent.cells) ∧ lv.ownBlock ≠ some w5.heap.size) ∧ Below w.heap.size w wr) (fun _ av _ => E - (intOf av).toNat)
  case atStart =>
    exact ⟨[], 12, [], ByteArray.empty, rfl, Lib.hid (Tb.opening_start s n E hE12), Lib.hid ⟨Tb.good_nil _, Nat.le_refl _, fun x hx => by simp at hx⟩, Lib.hid (fun x hx => by cases hx), Lib.hid ⟨.slice none 0 0, Bk.new _ _ _, World.ownsRow_nil _ _ _ _, by simp [Value.ownBlock]⟩, Lib.hid ⟨World.ownsRow_nil _ _ _ _, by simp [Value.ownBlock]⟩, hB0.alloc hB0z _⟩
  case round =>
    obtain ⟨pre, p, bs, last, rfl, HO, HG, HSM, HAT, HL, hB⟩ := hrel
    have hBz := hB.size
    have hpl := HO.out.len
    have hpE := HO.out.le
    have hatl := HAT.out.lt
    by_cases hlt : p < E
    · obtain ⟨R, HR⟩ : ∃ R, Hid (Tb.readE s p E = R) := ⟨_, Lib.hid rfl⟩
      obtain ⟨A, c, rfl, hlie, hm1, hnc, hA, hA2⟩ := Lie.of_own HL.out.1
      clear hlie hA hA2
      go_wp2_with fail
      refine (tentry_any s (by omega) p E (by omega) hEs _).mono ?_
      rintro r w6 ⟨rfl, hb6⟩
      rw [HR.out]
      have hb6z := hb6.size
      have hB6 : Below w.heap.size w w6 := hB.trans (hb6.mono hBz)
      cases R with
      | none =>
        have HN : Hid (Tb.openE s = none) := Lib.hid (by rw [HOP.out, HO.out.stop hEs hlt (.inl HR.out)]; rfl)
        unfold Tb.entV Tb.Ent.val
        go_wp2_with fail
        go_ret2
        exact Tb.openP_none HN.out (hB6.alloc (by omega) _)
      | some xq =>
        obtain ⟨⟨xk, xv, xg⟩, q⟩ := xq
        obtain ⟨y1, y2, y3, y4, y5⟩ := Tb.readE_some hEs HR.out
        simp only at y3 y4
        unfold Tb.entV Tb.Ent.val
        by_cases hful : n ≤ pre.length
        · have HN : Hid (Tb.openE s = none) := Lib.hid (by rw [HOP.out, HO.out.stop hEs hlt (.inr hful)]; rfl)
          clear y1
          go_wp2_with fail
          go_ret2
          exact Tb.openP_none HN.out (hB6.alloc (by omega) _)
        · have hful2 : ¬ (n : Int) ≤ (pre.length : Int) := by omega
          have HS2 := Lib.hid (HO.out.step hEs hlt HR.out (by omega))
          have Y1 := Lib.hid y1
          clear y1
          go_wp2_with fail
          have hst := good_starts HG.out.1 HO.out
          refine (tindex_any w.heap.size w5.heap.size s n last bs ⟨xk, xv, xg⟩ p q (by omega) (by omega) (by have := HG.out.2.1; omega) (fun y hy => Nat.le_trans (hst y hy) (by omega)) _ hB0z ((HAT.out.below hb6).alloc _)).mono ?_
          rintro r w7 ⟨rfl, hat7, hb7, ho7⟩
          have hx7 : Bk w7 w6.heap.size 36 #[.string xk, .string xv, .bool xg] := ho7 w6.heap.size _ _ _ (heap_alloc_new w6 _) (by decide) (by omega)
          have hr7 := Tb.row_oth ((row_below' HL.out.1 hb6).alloc (.cells #[.string xk, .string xv, .bool xg] 36)) ho7 (by decide) HL.out.2
          have hb7z := hb7.size
          simp only [World.size_alloc] at hb7z
          obtain ⟨⟨d0, d1, d2⟩, _⟩ := hx7.k3
          have HAT7 := Lib.hid hat7
          have HR7 := Lib.hid hr7
          clear hat7 ho7 hr7 hst
          go_wp2_with (at_builtin; go_must (refine wpList_append_cells rfl (.tmp 88) (.tmp 90) _ rfl w.heap.size 36 _ 3 40 Try.underlying22 Tb.info_entry rfl (by decide) _ pre.length _ rfl HR7.out [.string xk, .string xv, .bool xg] rfl w7.heap.size rfl rfl (by simp [Value.oneCell']) (by unfold maxLen; omega) (by omega) (by omega) ?_))
          intro v' w8 hown8 hb8 hg8 hv8
          go_wp2_with fail
          go_roundw
          case rel =>
            refine ⟨pre ++ [⟨xk, xv, xg⟩], q, Tb.idx bs ⟨xk, xv, xg⟩ p q, xk, rfl, HS2, Lib.hid ⟨?_, ?_, ?_⟩, Lib.hid ?_, Lib.hid ?_, Lib.hid ⟨?_, ?_⟩, ?_⟩
            · have h1 := Tb.good_next HG.out.1 ⟨xk, xv, xg⟩
              have h2 := HS2.out.at_
              rw [List.length_append] at h2
              rw [← HO.out.at_, ← show q = Tb.pos (pre ++ [⟨xk, xv, xg⟩]) (pre.length + 1) from h2] at h1
              exact h1
            · rw [List.length_append]; exact Tb.good_len (l := pre) _ _ _ HG.out.2.1
            · intro x hx; simp at hx; subst hx; rfl
            · intro x hx
              rcases List.mem_append.1 hx with h | h
              · exact HSM.out x h
              · simp at h; subst h; exact ⟨by simp only; omega, by simp only; omega⟩
            · exact (HAT7.out.alloc _).row (HR7.out.alloc _) (by decide) (by decide) hg8
            · rw [List.length_append, List.flatMap_append]; exact hown8
            · have hne := HL.out.2
              intro e
              rcases hv8 with h | h
              · rw [h] at e; exact hne e
              · rw [h] at e; injection e with e; omega
            · exact ((hB6.alloc (by omega) _).trans hb7).trans hb8
          case measure =>
            have h1 := Y1.out
            rw [Tb.text_len] at h1
            simp [intOf]; omega
    · have HD := Lib.hid (HO.out.done hlt)
      have hown := HL.out.1
      obtain ⟨A, c, rfl, hlie, hm1, hnc, hA, hA2⟩ := Lie.of_own hown
      have HLI := Lib.hid hlie
      clear hlie hA hA2 hown
      by_cases hnn : pre.length = n
      case neg =>
        have HN : Hid (Tb.openE s = none) := Lib.hid (by rw [HOP.out, HD.out]; unfold Tb.fin; simp only; rw [if_neg (fun h => hnn h.1)])
        have hnn2 : ((pre.length : Int) != (n : Int)) = true := by rw [bne_iff_ne]; omega
        clear hnn
        go_wp2_with fail
        go_ret2
        exact Tb.openP_none HN.out hB
      subst hnn
      obtain ⟨R, HR⟩ : ∃ R, Hid (Tb.right pre = R) := ⟨_, Lib.hid rfl⟩
      have tnn : ((pre.length : Int) != (pre.length : Int)) = false := by simp
      go_wp2_with fail
      refine (tright_any A pre.length c pre rfl hm1 HSM.out _ HLI.out).mono ?_
      rintro r w6 ⟨rfl, hb6⟩
      rw [HR.out]
      by_cases hR : R = 0
      case neg =>
        have HN : Hid (Tb.openE s = none) := Lib.hid (by rw [HOP.out, HD.out]; unfold Tb.fin; simp only; rw [if_neg (fun h => hR (HR.out ▸ h.2))])
        have tR : ((R : Int) != 0) = true := by rw [bne_iff_ne]; omega
        clear hR
        go_wp2_with fail
        go_ret2
        exact Tb.openP_none HN.out (hB.trans (hb6.mono hBz))
      subst hR
      simp only [Int.cast_ofNat_Int]
      have HN : Hid (Tb.openE s = some pre) := Lib.hid (by rw [HOP.out, HD.out]; unfold Tb.fin; simp only; rw [if_pos ⟨trivial, HR.out⟩])
      go_wp2_with fail
      go_ret2
      unfold Tb.OpenP
      rw [HN.out]
      refine ⟨hB.trans (hb6.mono hBz), w5.heap.size, hB0z, rfl, bs, last, HAT.out.below hb6, HG.out.1, HG.out.2.1, HG.out.2.2, HN.out, .inr ⟨E, hEs, ?_, HO.out.reads⟩⟩
      have := HO.out.at_
      omega
end Go.Proofs.Ytdjccepchleacaa
