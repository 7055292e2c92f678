/- token.Name, the reference's Name; TokenNames: the walk. -/
import Derived.Test.YtoomlpalkinipaaDoorTokNames
set_option linter.unusedVariables false
namespace Go.Proofs.YtoomlpalkinipaaDoor
open Go.RowKit
namespace Tk
theorem whole_cut (s : ByteArray) (E : Nat) (hE : E ≤ s.size) : ((s.extract 0 E).toList == s.toList) = decide (E = s.size) := by
  by_cases h : E = s.size
  · subst h
    rw [decide_eq_true rfl]
    simp
  · rw [decide_eq_false h]
    have : (s.extract 0 E).toList ≠ s.toList := by
      intro e
      have := congrArg ByteArray.size (text_eq e)
      simp at this
      omega
    simpa using this
theorem isName_short {s : ByteArray} (h : s.size < 1 ∨ 32 < s.size) : isName s = false := by
  unfold isName
  rcases h with h | h
  · rw [decide_eq_false (by omega)]; rfl
  · rw [decide_eq_false (p := s.size ≤ 32) (by omega)]; simp
end Tk
set_option maxRecDepth 100000 in
set_option maxHeartbeats 2000000 in
theorem name_any (s : ByteArray) (w : World) (hk : Tk.KW w) :
    Calls Tryd.prog 59 #[.string s] w fun e w' => e = .returned (.bool (Tk.isName s)) ∧ Below w.heap.size w w' := by
  by_cases h1 : s.size < 1
  · have HN := Lib.hid (Tk.isName_short (.inl h1))
    rw [HN.out]
    go_enter Tryd.func59, Tryd.ntmps59
    go_wp2_with fail
    go_ret
    exact ⟨rfl, Below.refl _ _⟩
  · by_cases h2 : 32 < s.size
    · have HN := Lib.hid (Tk.isName_short (.inr h2))
      rw [HN.out]
      go_enter Tryd.func59, Tryd.ntmps59
      go_wp2_with fail
      go_ret
      exact ⟨rfl, Below.refl _ _⟩
    · have h0 : 0 < s.size := by omega
      have hx : s[0].toNat < 256 := s[0].toNat_lt
      have hb0 := Tk.byte_eq h0
      have h0i : (0 : Int) < (s.size : Int) := by omega
      cases hL : Tk.isLetter s[0].toNat
      · have HN : Hid (Tk.isName s = false) := Lib.hid (by unfold Tk.isName; rw [hb0, hL]; simp)
        have HL := Lib.hid hL
        clear hL hb0
        rw [HN.out]
        go_enter Tryd.func59, Tryd.ntmps59
        go_wp2_with fail
        refine (letter_any _ hx _).mono ?_
        rintro e w1 ⟨rfl, rfl⟩
        rw [HL.out]
        go_wp2_with fail
        go_ret
        exact ⟨rfl, Below.refl _ _⟩
      · cases hK : Tk.isKw s
        · have HN : Hid (Tk.isName s = decide (Tk.runEnd Tk.isInner s 0 = s.size)) := Lib.hid (by unfold Tk.isName; rw [hb0, hL, hK, decide_eq_true (by omega), decide_eq_true (p := s.size ≤ 32) (by omega)]; simp)
          have HL := Lib.hid hL
          have HK := Lib.hid hK
          have HW := Lib.hid (Tk.whole_cut s (Tk.runEnd Tk.isInner s 0) (Tk.runEnd_le (by omega)))
          clear hL hb0 hK
          rw [HN.out]
          go_enter Tryd.func59, Tryd.ntmps59
          go_wp2_with fail
          refine (letter_any _ hx _).mono ?_
          rintro e w1 ⟨rfl, rfl⟩
          rw [HL.out]
          go_wp2_with fail
          refine (keyword_any s _ hk).mono ?_
          rintro e w1 ⟨rfl, rfl⟩
          rw [HK.out]
          go_wp2_with fail
          refine (run_inner s (by unfold maxLen; omega) _ 0 (by omega) _ (heap_alloc_new _ _)).mono ?_
          rintro e w2 ⟨rfl, hg, hR⟩
          go_wp2_with fail
          go_ret
          refine ⟨by first | rfl | (rw [HW.out]; rfl), ?_⟩
          exact ((Below.refl _ _).alloc (Nat.le_refl _) _).trans (below_of_grown hg (Nat.le_refl _) (.inr (by simp)))
        · have HN : Hid (Tk.isName s = false) := Lib.hid (by unfold Tk.isName; rw [hK]; simp)
          have HL := Lib.hid hL
          have HK := Lib.hid hK
          clear hL hb0 hK
          rw [HN.out]
          go_enter Tryd.func59, Tryd.ntmps59
          go_wp2_with fail
          refine (letter_any _ hx _).mono ?_
          rintro e w1 ⟨rfl, rfl⟩
          rw [HL.out]
          go_wp2_with fail
          refine (keyword_any s _ hk).mono ?_
          rintro e w1 ⟨rfl, rfl⟩
          rw [HK.out]
          go_wp2_with fail
          go_ret
          exact ⟨rfl, Below.refl _ _⟩
set_option maxRecDepth 100000 in
set_option maxHeartbeats 2000000 in
theorem rname_any (s : ByteArray) (w : World) :
    Calls Tryd.prog 64 #[.string s] w fun e w' => e = .returned (.bool (Tk.isName s)) ∧ w' = w := by
  by_cases h1 : s.size < 1
  · have HN := Lib.hid (Tk.isName_short (.inl h1))
    have t0 : ((s.size : Int) == 0) = true := beq_iff_eq.2 (by omega)
    rw [HN.out]
    go_enter Tryd.func64, Tryd.ntmps64
    go_wp2_with fail
    go_ret
    exact ⟨rfl, rfl⟩
  · have t0 : ((s.size : Int) == 0) = false := beq_eq_false_iff_ne.2 (by omega)
    by_cases h2 : 32 < s.size
    · have HN := Lib.hid (Tk.isName_short (.inr h2))
      rw [HN.out]
      go_enter Tryd.func64, Tryd.ntmps64
      go_wp2_with fail
      go_ret
      exact ⟨rfl, rfl⟩
    · have h0 : 0 < s.size := by omega
      have hx : s[0].toNat < 256 := s[0].toNat_lt
      have hb0 := Tk.byte_eq h0
      have h0i : (0 : Int) < (s.size : Int) := by omega
      cases hL : Tk.isLetter s[0].toNat
      · have HN : Hid (Tk.isName s = false) := Lib.hid (by unfold Tk.isName; rw [hb0, hL]; simp)
        have HL := Lib.hid hL
        clear hL hb0
        rw [HN.out]
        go_enter Tryd.func64, Tryd.ntmps64
        go_wp2_with fail
        refine (rletter_any _ hx _).mono ?_
        rintro e w1 ⟨rfl, rfl⟩
        rw [HL.out]
        go_wp2_with fail
        go_ret
        exact ⟨rfl, rfl⟩
      · cases hK : Tk.isKw s
        · have HN : Hid (Tk.isName s = decide (Tk.runEnd Tk.isInner s 1 = s.size)) := Lib.hid (by
            unfold Tk.isName
            rw [hb0, hL, hK, decide_eq_true (by omega), decide_eq_true (p := s.size ≤ 32) (by omega), Tk.runEnd_on (p := Tk.isInner) h0 (by unfold Tk.isInner; rw [hL]; rfl)]
            simp)
          have HL := Lib.hid hL
          have HK := Lib.hid hK
          clear hL hb0 hK
          rw [HN.out]
          clear HN
          go_enter Tryd.func64, Tryd.ntmps64
          go_wp2_with fail
          refine (rletter_any _ hx _).mono ?_
          rintro e w1 ⟨rfl, rfl⟩
          rw [HL.out]
          go_wp2_with fail
          refine (rkeyword_any s _).mono ?_
          rintro e w1 ⟨rfl, rfl⟩
          rw [HK.out]
          go_wp2_with fail
          go_loop [3] (fun i => ∃ m : Nat, 1 ≤ m ∧ m ≤ s.size ∧ i = .int .i64 m ∧ Hid (Tk.runEnd Tk.isInner s 1 = Tk.runEnd Tk.isInner s m)) (fun i => s.size - (intOf i).toNat)
          case atStart => exact ⟨1, by omega, by omega, rfl, Lib.hid rfl⟩
          case round =>
            obtain ⟨m, hm1, hm, rfl, HM⟩ := hrel
            by_cases hml : m < s.size
            · have hx2 : s[m].toNat < 256 := s[m].toNat_lt
              have hmi : (m : Int) < (s.size : Int) := by omega
              cases h1 : Tk.isLetter s[m].toNat
              · have H1 := Lib.hid h1
                cases h2 : Tk.isDigit s[m].toNat
                · have H2 := Lib.hid h2
                  by_cases h3 : s[m].toNat = 95
                  · have HE := Lib.hid (Tk.runEnd_on (p := Tk.isInner) hml (by unfold Tk.isInner; rw [h1, h2, h3]; rfl))
                    have t1 : ((s[m].toNat : Int) == 95) = true := by simp; omega
                    have t2 : ((s[m].toNat : Int) != 95) = false := by simp; omega
                    clear h1 h2 h3
                    go_wp2_with fail
                    refine (rletter_any _ hx2 _).mono ?_
                    rintro e w1 ⟨rfl, rfl⟩
                    rw [H1.out]
                    go_wp2_with fail
                    refine (rdigit_any _ hx2 _).mono ?_
                    rintro e w1 ⟨rfl, rfl⟩
                    rw [H2.out]
                    go_wp2_with fail
                    go_round
                    case rel => exact ⟨m + 1, by omega, by omega, by go_num, Lib.hid (by rw [HM.out, HE.out])⟩
                    case measure => simp [intOf]; omega
                  · have HE := Lib.hid (Tk.runEnd_stop (p := Tk.isInner) hml (by unfold Tk.isInner; rw [h1, h2]; simp [h3]))
                    have t1 : ((s[m].toNat : Int) == 95) = false := by simp; omega
                    have t2 : ((s[m].toNat : Int) != 95) = true := by simp; omega
                    clear h1 h2 h3
                    go_wp2_with fail
                    refine (rletter_any _ hx2 _).mono ?_
                    rintro e w1 ⟨rfl, rfl⟩
                    rw [H1.out]
                    go_wp2_with fail
                    refine (rdigit_any _ hx2 _).mono ?_
                    rintro e w1 ⟨rfl, rfl⟩
                    rw [H2.out]
                    go_wp2_with fail
                    go_ret
                    exact ⟨by rw [HM.out, HE.out, decide_eq_false (p := m = s.size) (by omega)]; rfl, rfl⟩
                · have H2 := Lib.hid h2
                  have HE := Lib.hid (Tk.runEnd_on (p := Tk.isInner) hml (by unfold Tk.isInner; rw [h1, h2]; rfl))
                  clear h1 h2
                  go_wp2_with fail
                  refine (rletter_any _ hx2 _).mono ?_
                  rintro e w1 ⟨rfl, rfl⟩
                  rw [H1.out]
                  go_wp2_with fail
                  refine (rdigit_any _ hx2 _).mono ?_
                  rintro e w1 ⟨rfl, rfl⟩
                  rw [H2.out]
                  go_wp2_with fail
                  go_round
                  case rel => exact ⟨m + 1, by omega, by omega, by go_num, Lib.hid (by rw [HM.out, HE.out])⟩
                  case measure => simp [intOf]; omega
              · have H1 := Lib.hid h1
                have HE := Lib.hid (Tk.runEnd_on (p := Tk.isInner) hml (by unfold Tk.isInner; rw [h1]; rfl))
                clear h1
                go_wp2_with fail
                refine (rletter_any _ hx2 _).mono ?_
                rintro e w1 ⟨rfl, rfl⟩
                rw [H1.out]
                go_wp2_with fail
                go_round
                case rel => exact ⟨m + 1, by omega, by omega, by go_num, Lib.hid (by rw [HM.out, HE.out])⟩
                case measure => simp [intOf]; omega
            · obtain rfl : m = s.size := by omega
              clear hml
              go_wp2_with fail
              go_ret
              exact ⟨by rw [HM.out, Tk.runEnd_end (Nat.le_refl _), decide_eq_true (p := s.size = s.size) rfl]; rfl, rfl⟩
        · have HN : Hid (Tk.isName s = false) := Lib.hid (by unfold Tk.isName; rw [hK]; simp)
          have HL := Lib.hid hL
          have HK := Lib.hid hK
          clear hL hb0 hK
          rw [HN.out]
          go_enter Tryd.func64, Tryd.ntmps64
          go_wp2_with fail
          refine (rletter_any _ hx _).mono ?_
          rintro e w1 ⟨rfl, rfl⟩
          rw [HL.out]
          go_wp2_with fail
          refine (rkeyword_any s _).mono ?_
          rintro e w1 ⟨rfl, rfl⟩
          rw [HK.out]
          go_wp2_with fail
          go_ret
          exact ⟨rfl, rfl⟩
end Go.Proofs.YtoomlpalkinipaaDoor
