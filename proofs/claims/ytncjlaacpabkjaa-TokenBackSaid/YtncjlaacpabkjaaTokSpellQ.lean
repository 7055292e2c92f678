/- token.Spell: the walk. -/
import Derived.Test.YtncjlaacpabkjaaTokSpellP
set_option linter.unusedVariables false
namespace Go.Proofs.Ytncjlaacpabkjaa
open Go.RowKit
theorem Tk.blk_alloc (w : World) (c0 c1 c2 c3 : Value) (o : Obj) : Tk.Blk ((w.alloc (.cells #[c0, c1, c2, c3] 30)).alloc o) w.heap.size c0 c1 c2 c3 := (Tk.Blk.new w c0 c1 c2 c3).old o
theorem Bd.isAlloc {T e : TypeId} {B b : Nat} {bs : List Value} {w : World} (h : Lib.IsBuilder T e B b bs w) (o : Obj) : Lib.IsBuilder T e B b bs (w.alloc o) := by
  rcases h with h | h
  · obtain ⟨hB, v, hb, hown, hne⟩ := h
    have hlt := Lib.BuilderAt.lt ⟨hB, v, hb, hown, hne⟩
    exact .inl ⟨hB, v, (Lib.alloc_old w o b hlt).trans hb, hown.alloc o, hne⟩
  · obtain ⟨hB, v, hb, hown, hne⟩ := h
    have hlt := Lib.BuilderAt.lt ⟨hB, v, hb, hown, hne⟩
    exact .inr ⟨hB, v, (Lib.alloc_old w o b hlt).trans hb, hown.alloc o, hne⟩
theorem Bd.byteCells_len (l : List UInt8) : (Lib.byteCells l).length = l.length := by simp [Lib.byteCells]
theorem Bd.joined_cells {a b : List UInt8} {k : Nat} {s : ByteArray} (h : b = a ++ (if 0 < k then [32] else []) ++ s.data.toList) (hk : 0 < k) : Lib.byteCells a ++ [.int .u8 32] ++ Lib.strCells s = Lib.byteCells b := by
  rw [h, if_pos hk]; simp [Lib.byteCells, Lib.strCells]
theorem Bd.joined_cells0 {a b : List UInt8} {s : ByteArray} (h : b = a ++ (if 0 < 0 then [32] else []) ++ s.data.toList) : Lib.byteCells a ++ Lib.strCells s = Lib.byteCells b := by
  rw [h]; simp [Lib.byteCells, Lib.strCells]
set_option maxRecDepth 100000 in
set_option maxHeartbeats 8000000 in
theorem spell_any (A : Option Addr) (n c : Nat) (ls : List Tk.ITok) (hn : ls.length = n) (hm : n ≤ 65536) (hsz : ∀ t ∈ ls, t.text.size ≤ 65536) (w : World) (hr : Tk.ReadI w A ls) :
    Calls Try.prog 11 #[.slice A n c] w fun e w' => e = .returned (.tuple #[.string (Tk.spell ls).1, .int .i64 (Tk.spell ls).2]) ∧ Below w.heap.size w w' := by
  have Hn := Lib.hid hn
  have Hr := Lib.hid hr
  have HZ := Lib.hid hsz
  have HT := Lib.hid (Tk.total_le hsz)
  clear hn hr hsz
  go_enter Try.func11, Try.ntmps11
  go_wp2
  go_loopw [4, 16] (fun nn i wr => ∃ k : Nat, k ≤ n ∧ i = .int .i64 k ∧ nn = .int .i64 (Tk.total (ls.take k)) ∧ Hid ((ls.take k).all Tk.chk = true) ∧ Below w.heap.size w wr) (fun _ i _ => n - (intOf i).toNat)
  case atStart => exact ⟨0, by omega, rfl, rfl, Lib.hid rfl, Below.refl _ _⟩
  case round =>
    obtain ⟨k, hk, rfl, rfl, HC, hb⟩ := hrel
    have htl := HT.out k
    by_cases hlt : k < n
    · have hkl : k < ls.length := by rw [Hn.out]; exact hlt
      obtain ⟨ag, ao, rfl, hca⟩ := (Hr.out.below hb) (by omega)
      obtain ⟨a0, a1, a2, a3⟩ := hca k hkl
      have hki : (k : Int) < (n : Int) := by omega
      have HTT := Lib.hid (Tk.total_take hkl)
      have HAT := Lib.hid (Tk.all_take hkl)
      have hs := HZ.out ls[k] (List.getElem_mem hkl)
      have HB := Lib.hid (fun h => Tk.spell_bad (l := ls) hkl h)
      clear hca
      generalize ls[k] = t at *
      obtain ⟨x0, x1, x2, x3⟩ := t
      simp only at a0 a1 a2 a3 hs HTT
      have hbz := hb.size
      cases hck : Tk.chk ⟨x0, x1, x2, x3⟩
      · have HS : Hid (Tk.spell ls = (Tk.empty, 1)) := Lib.hid (HB.out hck)
        have hle := Tk.gapEnd_le (s := x1) (k := 0) false (by omega)
        by_cases hK : Tk.gapEnd false x1 0 < x1.size
        · have hno := Tk.chk_no hck hK
          simp only at hno
          have hnx := fun (w0 : World) (b : Nat) (h : Tk.Rd w0 b x1 0) => next_any x1 hs b 0 _ (by omega) rfl hK w0 h
          generalize Tk.oneAt 0 x1 (Tk.gapEnd false x1 0) = o at hno hnx
          obtain ⟨⟨ok, ot, on, oa⟩, er⟩ := o
          simp only at hno hnx
          by_cases her : er = 0
          · subst her
            have HNX := Lib.hid hnx
            by_cases hk0 : ok = x0
            · subst hk0
              by_cases ht : ot = x1
              · subst ht
                have hnn := hno rfl rfl rfl
                have tn : ((on : Int) == x2) = false := beq_eq_false_iff_ne.2 hnn
                clear HB HAT hck hno hnx hnn
                have hRd : Tk.Rd ((wr.alloc (.cells #[.int .u8 ok, .string ot, .int .i64 x2, .int .i64 x3] 30)).alloc (.cells #[.string ot, .int .i64 0] 37)) (wr.heap.size + 1) ot 0 := by
                  have h := heap_alloc_new (wr.alloc (.cells #[.int .u8 ok, .string ot, .int .i64 x2, .int .i64 x3] 30)) (.cells #[.string ot, .int .i64 0] 37)
                  rw [World.size_alloc] at h
                  exact h
                go_wp2_with fail
                refine (HNX.out _ (wr.heap.size + 1) hRd).mono ?_
                rintro e w1 ⟨rfl, hg1, k', hR1, _⟩
                clear hRd a0 a1 a2 a3
                obtain ⟨⟨g0, g1, g2, g3⟩, g4, g5, g6, g7⟩ := ((Tk.blk_alloc wr (.int .u8 ok) (.string ot) (.int .i64 x2) (.int .i64 x3) _).grown hg1 (by simp)).facts
                have c0 := hR1.c0
                have c1 := hR1.c1
                have hz1 : wr.heap.size + 2 ≤ w1.heap.size := by have := hg1.size; simp at this; omega
                have hz2 : wr.heap.size < w1.heap.size := by omega
                have hz3 : wr.heap.size + 1 < w1.heap.size := by omega
                have hbw : Below w.heap.size w w1 := (((hb.alloc hbz _).alloc (by simp; omega) _).trans (below_of_grown hg1 (by omega) (.inr (by simp; omega))))
                simp only [Tk.Tok.val]
                go_wp2_with fail
                go_quiet (fail)
                go_wp2_with fail
                go_ret2
                exact ⟨by rw [HS.out]; rfl, below_drewN (hbw.alloc (by omega) _) _⟩
              · have tt : (ot.toList == x1.toList) = false := beq_eq_false_iff_ne.2 (fun e => ht (Tk.text_eq' e))
                clear HB HAT hck hno hnx ht
                have hRd : Tk.Rd ((wr.alloc (.cells #[.int .u8 ok, .string x1, .int .i64 x2, .int .i64 x3] 30)).alloc (.cells #[.string x1, .int .i64 0] 37)) (wr.heap.size + 1) x1 0 := by
                  have h := heap_alloc_new (wr.alloc (.cells #[.int .u8 ok, .string x1, .int .i64 x2, .int .i64 x3] 30)) (.cells #[.string x1, .int .i64 0] 37)
                  rw [World.size_alloc] at h
                  exact h
                go_wp2_with fail
                refine (HNX.out _ (wr.heap.size + 1) hRd).mono ?_
                rintro e w1 ⟨rfl, hg1, k', hR1, _⟩
                clear hRd a0 a1 a2 a3
                obtain ⟨⟨g0, g1, g2, g3⟩, g4, g5, g6, g7⟩ := ((Tk.blk_alloc wr (.int .u8 ok) (.string x1) (.int .i64 x2) (.int .i64 x3) _).grown hg1 (by simp)).facts
                have c0 := hR1.c0
                have c1 := hR1.c1
                have hz1 : wr.heap.size + 2 ≤ w1.heap.size := by have := hg1.size; simp at this; omega
                have hz2 : wr.heap.size < w1.heap.size := by omega
                have hz3 : wr.heap.size + 1 < w1.heap.size := by omega
                have hbw : Below w.heap.size w w1 := (((hb.alloc hbz _).alloc (by simp; omega) _).trans (below_of_grown hg1 (by omega) (.inr (by simp; omega))))
                simp only [Tk.Tok.val]
                go_wp2_with fail
                go_quiet (fail)
                go_wp2_with fail
                go_ret2
                exact ⟨by rw [HS.out]; rfl, below_drewN (hbw.alloc (by omega) _) _⟩
            · have tk : ((ok : Int) == (x0 : Int)) = false := beq_eq_false_iff_ne.2 (by omega)
              clear HB HAT hck hno hnx hk0
              have hRd : Tk.Rd ((wr.alloc (.cells #[.int .u8 x0, .string x1, .int .i64 x2, .int .i64 x3] 30)).alloc (.cells #[.string x1, .int .i64 0] 37)) (wr.heap.size + 1) x1 0 := by
                have h := heap_alloc_new (wr.alloc (.cells #[.int .u8 x0, .string x1, .int .i64 x2, .int .i64 x3] 30)) (.cells #[.string x1, .int .i64 0] 37)
                rw [World.size_alloc] at h
                exact h
              go_wp2_with fail
              refine (HNX.out _ (wr.heap.size + 1) hRd).mono ?_
              rintro e w1 ⟨rfl, hg1, k', hR1, _⟩
              clear hRd a0 a1 a2 a3
              obtain ⟨⟨g0, g1, g2, g3⟩, g4, g5, g6, g7⟩ := ((Tk.blk_alloc wr (.int .u8 x0) (.string x1) (.int .i64 x2) (.int .i64 x3) _).grown hg1 (by simp)).facts
              have c0 := hR1.c0
              have c1 := hR1.c1
              have hz1 : wr.heap.size + 2 ≤ w1.heap.size := by have := hg1.size; simp at this; omega
              have hz2 : wr.heap.size < w1.heap.size := by omega
              have hz3 : wr.heap.size + 1 < w1.heap.size := by omega
              have hbw : Below w.heap.size w w1 := (((hb.alloc hbz _).alloc (by simp; omega) _).trans (below_of_grown hg1 (by omega) (.inr (by simp; omega))))
              simp only [Tk.Tok.val]
              go_wp2_with fail
              go_quiet (fail)
              go_wp2_with fail
              go_ret2
              exact ⟨by rw [HS.out]; rfl, below_drewN (hbw.alloc (by omega) _) _⟩
          · have te : ((er : Int) == 0) = false := beq_eq_false_iff_ne.2 (by omega)
            have te2 : ((er : Int) != 0) = true := by rw [bne_iff_ne]; omega
            have te3 : decide (er = 0) = false := decide_eq_false her
            rw [te3] at hnx
            have HNX := Lib.hid hnx
            clear HB HAT hck hno hnx her te3
            have hRd : Tk.Rd ((wr.alloc (.cells #[.int .u8 x0, .string x1, .int .i64 x2, .int .i64 x3] 30)).alloc (.cells #[.string x1, .int .i64 0] 37)) (wr.heap.size + 1) x1 0 := by
              have h := heap_alloc_new (wr.alloc (.cells #[.int .u8 x0, .string x1, .int .i64 x2, .int .i64 x3] 30)) (.cells #[.string x1, .int .i64 0] 37)
              rw [World.size_alloc] at h
              exact h
            go_wp2_with fail
            refine (HNX.out _ (wr.heap.size + 1) hRd).mono ?_
            rintro e w1 ⟨rfl, hg1, k', hR1, _⟩
            clear hRd a0 a1 a2 a3
            obtain ⟨⟨g0, g1, g2, g3⟩, g4, g5, g6, g7⟩ := ((Tk.blk_alloc wr (.int .u8 x0) (.string x1) (.int .i64 x2) (.int .i64 x3) _).grown hg1 (by simp)).facts
            have c0 := hR1.c0
            have c1 := hR1.c1
            have hz1 : wr.heap.size + 2 ≤ w1.heap.size := by have := hg1.size; simp at this; omega
            have hz2 : wr.heap.size < w1.heap.size := by omega
            have hz3 : wr.heap.size + 1 < w1.heap.size := by omega
            have hbw : Below w.heap.size w w1 := (((hb.alloc hbz _).alloc (by simp; omega) _).trans (below_of_grown hg1 (by omega) (.inr (by simp; omega))))
            simp only [Tk.Tok.val]
            go_wp2_with fail
            go_quiet (fail)
            go_wp2_with fail
            go_ret2
            exact ⟨by rw [HS.out]; rfl, below_drewN (hbw.alloc (by omega) _) _⟩
        · have HNX := Lib.hid (fun (w0 : World) (b : Nat) (h : Tk.Rd w0 b x1 0) => next_end x1 hs b 0 (by omega) (by omega) w0 h)
          clear HB HAT hck hK
          have hRd : Tk.Rd ((wr.alloc (.cells #[.int .u8 x0, .string x1, .int .i64 x2, .int .i64 x3] 30)).alloc (.cells #[.string x1, .int .i64 0] 37)) (wr.heap.size + 1) x1 0 := by
            have h := heap_alloc_new (wr.alloc (.cells #[.int .u8 x0, .string x1, .int .i64 x2, .int .i64 x3] 30)) (.cells #[.string x1, .int .i64 0] 37)
            rw [World.size_alloc] at h
            exact h
          go_wp2_with fail
          refine (HNX.out _ (wr.heap.size + 1) hRd).mono ?_
          rintro e w1 ⟨rfl, hg1, k', hR1, _⟩
          clear hRd a0 a1 a2 a3
          obtain ⟨⟨g0, g1, g2, g3⟩, g4, g5, g6, g7⟩ := ((Tk.blk_alloc wr (.int .u8 x0) (.string x1) (.int .i64 x2) (.int .i64 x3) _).grown hg1 (by simp)).facts
          have c0 := hR1.c0
          have c1 := hR1.c1
          have hz1 : wr.heap.size + 2 ≤ w1.heap.size := by have := hg1.size; simp at this; omega
          have hz2 : wr.heap.size < w1.heap.size := by omega
          have hz3 : wr.heap.size + 1 < w1.heap.size := by omega
          have hbw : Below w.heap.size w w1 := (((hb.alloc hbz _).alloc (by simp; omega) _).trans (below_of_grown hg1 (by omega) (.inr (by simp; omega))))
          simp only [Tk.Tok.val]
          go_wp2_with fail
          go_quiet (fail)
          go_wp2_with fail
          go_ret2
          exact ⟨by rw [HS.out]; rfl, below_drewN (hbw.alloc (by omega) _) _⟩
      · obtain ⟨y0, y1, y2, y3, y4, y5⟩ := Tk.chk_yes hck
        simp only at y0 y1 y2 y3 y4 y5
        generalize hO : Tk.oneAt 0 x1 0 = o at y2 y3 y4 y5
        obtain ⟨⟨ok, ot, on, oa⟩, er⟩ := o
        simp only at y2 y3 y4 y5
        subst y2 y3 y4 y5
        have HS : Hid ((ls.take (k + 1)).all Tk.chk = true) := Lib.hid (by rw [HAT.out, HC.out, hck]; rfl)
        have HNX := Lib.hid (fun (w0 : World) (b : Nat) (h : Tk.Rd w0 b ot 0) => next_any ot hs b 0 0 (by omega) y1 y0 w0 h)
        rw [hO] at HNX
        clear HB HAT hck hO y1
        have hRd : Tk.Rd ((wr.alloc (.cells #[.int .u8 ok, .string ot, .int .i64 on, .int .i64 x3] 30)).alloc (.cells #[.string ot, .int .i64 0] 37)) (wr.heap.size + 1) ot 0 := by
          have h := heap_alloc_new (wr.alloc (.cells #[.int .u8 ok, .string ot, .int .i64 on, .int .i64 x3] 30)) (.cells #[.string ot, .int .i64 0] 37)
          rw [World.size_alloc] at h
          exact h
        go_wp2_with fail
        refine (HNX.out _ (wr.heap.size + 1) hRd).mono ?_
        rintro e w1 ⟨rfl, hg1, k', hR1, hk'⟩
        obtain rfl : k' = 0 + ot.size := hk' trivial
        rw [Nat.zero_add] at hR1
        clear hk' hRd a0 a1 a2 a3
        obtain ⟨⟨g0, g1, g2, g3⟩, g4, g5, g6, g7⟩ := ((Tk.blk_alloc wr (.int .u8 ok) (.string ot) (.int .i64 on) (.int .i64 x3) _).grown hg1 (by simp)).facts
        have c0 := hR1.c0
        have c1 := hR1.c1
        have hz1 : wr.heap.size + 2 ≤ w1.heap.size := by have := hg1.size; simp at this; omega
        have hz2 : wr.heap.size < w1.heap.size := by omega
        have hz3 : wr.heap.size + 1 < w1.heap.size := by omega
        have hbw : Below w.heap.size w w1 := (((hb.alloc hbz _).alloc (by simp; omega) _).trans (below_of_grown hg1 (by omega) (.inr (by simp; omega))))
        simp only [Tk.Tok.val]
        go_wp2_with fail
        go_quiet (fail)
        go_wp2_with fail
        refine ⟨⟨k + 1, by omega, by go_num, by rw [HTT.out]; go_num, HS, below_drewN (hbw.alloc (by omega) _) _⟩, by simp [intOf]; omega⟩
    · obtain rfl : k = n := by omega
      have htk : ls.take k = ls := List.take_of_length_le (by rw [Hn.out]; omega)
      have HTK := Lib.hid htk
      have HA : Hid (ls.all Tk.chk = true) := Lib.hid (by have := HC.out; rwa [htk] at this)
      rw [htk] at htl ⊢
      clear htk hlt
      by_cases hbig : 65537 < Tk.total ls
      · have HS : Hid (Tk.spell ls = (Tk.empty, 3)) := Lib.hid (by unfold Tk.spell; rw [if_pos HA.out, if_pos hbig])
        have hbi : (65536 : Int) < (Tk.total ls : Int) - 1 := by omega
        go_wp2_with fail
        go_ret2
        exact ⟨by rw [HS.out]; rfl, hb⟩
      · have HS : Hid (Tk.spell ls = (⟨(Tk.joined ls).toArray⟩, 0)) := Lib.hid (by unfold Tk.spell; rw [if_pos HA.out, if_neg hbig])
        have hbi : ¬ (65536 : Int) < (Tk.total ls : Int) - 1 := by omega
        have HJL := Lib.hid (Tk.joined_le ls)
        have hbz := hb.size
        go_wp2_with fail
        obtain ⟨wo, rfl⟩ : ∃ wo : World, wo = wr := ⟨_, rfl⟩
        go_loopw [66] (fun i wr => ∃ m : Nat, m ≤ k ∧ i = .int .i64 m ∧ Hid (Lib.IsBuilder 46 5 wo.heap.size wo.heap.size (Lib.byteCells (Tk.joined (ls.take m))) wr) ∧ Below wo.heap.size wo wr) (fun i _ => k - (intOf i).toNat)
        case atStart =>
          refine ⟨0, by omega, rfl, Lib.hid (.inl ⟨Nat.le_refl _, .slice none 0 0, heap_alloc_new _ _, World.ownsRow_nil _ _ _ _, by simp [Value.ownBlock]⟩), (Below.refl _ _).alloc (Nat.le_refl _) _⟩
        case round =>
          obtain ⟨m, hm2, rfl, HBD, hb2⟩ := hrel
          have hz2 : wo.heap.size < wr.heap.size := by rcases HBD.out with h | h <;> exact Lib.BuilderAt.lt h
          by_cases hml : m < k
          · have hkl : m < ls.length := by rw [Hn.out]; exact hml
            obtain ⟨ag, ao, rfl, hca⟩ := ((Hr.out.below hb).below hb2) (by omega)
            obtain ⟨a0, a1, a2, a3⟩ := hca m hkl
            have hmi : (m : Int) < (k : Int) := by omega
            have HJT := Lib.hid (Tk.joined_take hkl)
            have hj1 := HJL.out m
            have hs := HZ.out ls[m] (List.getElem_mem hkl)
            clear hca
            by_cases hm0 : m = 0
            · subst hm0
              simp only [Nat.zero_mul, Nat.add_zero] at a0 a1 a2 a3
              go_wp2_with fail
              refine (Bd.writeString wo.heap.size wo.heap.size (Lib.byteCells (Tk.joined (ls.take 0))) ls[0].text _ (Bd.isAlloc HBD.out _) (by rw [Bd.byteCells_len]; omega) (by simp; omega)).mono ?_
              rintro e w3 ⟨rfl, ⟨hb3, hbw3⟩, _⟩
              have HB3 := Lib.hid hb3
              clear hb3
              go_wp2_with fail
              go_roundw
              case rel => exact ⟨1, by omega, by go_num, Lib.hid (.inr (by have := HB3.out; rw [Bd.joined_cells0 HJT.out] at this; exact this)), (hb2.alloc (by omega) _).trans hbw3⟩
              case measure => simp [intOf]; omega
            · have hm0i : (0 : Int) < (m : Int) := by omega
              have hm0b : 0 < m := by omega
              go_wp2_with fail
              refine (Bd.writeByte wo.heap.size wo.heap.size (Lib.byteCells (Tk.joined (ls.take m))) 32 _ (Bd.isAlloc HBD.out _) (by rw [Bd.byteCells_len]; omega) (by simp; omega)).mono ?_
              rintro e w3 ⟨rfl, ⟨hb3, hbw3⟩, ho3⟩
              have HB3 := Lib.hid hb3
              clear hb3
              have hz3 := hbw3.size
              simp only [World.size_alloc] at hz3
              have hx1 : w3.cell? ⟨wr.heap.size, 1, none⟩ = some (.string ls[m].text) := by
                have hq := ho3 wr.heap.size _ _ _ (heap_alloc_new wr _) (by decide) (by omega)
                rw [Lib.cell_of_heap hq]; rfl
              clear ho3
              go_wp2_with fail
              refine (Bd.writeString wo.heap.size wo.heap.size (Lib.byteCells (Tk.joined (ls.take m)) ++ [.int .u8 32]) ls[m].text _ (.inr HB3.out) (by rw [List.length_append, Bd.byteCells_len]; simp; omega) (by omega)).mono ?_
              rintro e w4 ⟨rfl, ⟨hb4, hbw4⟩, _⟩
              have HB4 := Lib.hid hb4
              clear hb4
              go_wp2_with fail
              go_roundw
              case rel => exact ⟨m + 1, by omega, by go_num, Lib.hid (.inr (by have := HB4.out; rw [Bd.joined_cells HJT.out hm0b] at this; exact this)), ((hb2.alloc (by omega) _).trans hbw3).trans hbw4⟩
              case measure => simp [intOf]; omega
          · obtain rfl : m = k := by omega
            rw [HTK.out] at HBD
            go_wp2_with fail
            refine (Try.Builder_String_any wo.heap.size wo.heap.size (Tk.joined ls) _ HBD.out (by omega)).mono ?_
            rintro e w3 ⟨rfl, hb3⟩
            go_wp2_with fail
            go_ret2
            exact ⟨by rw [HS.out]; rfl, (hb.trans (hb2.mono hbz)).trans (hb3.mono hbz)⟩
end Go.Proofs.Ytncjlaacpabkjaa
