import Derived.Test.YtoomlpalkinipaaDoorTokWalkC
set_option linter.unusedVariables false
namespace Go.Proofs.YtoomlpalkinipaaDoor
open Go.RowKit
set_option maxRecDepth 100000 in
set_option maxHeartbeats 4000000 in
theorem rone_word (s : ByteArray) (hs : s.size ≤ 65536) (k : Nat) (hk : k < s.size) (hL : Tk.isLetter s[k].toNat = true) (w : World) :
    Calls Tryd.prog 40 #[.string s, .int .i64 k] w fun e w' => e = .returned (.tuple #[(Tk.oneAt 3 s k).1.val, .int .i64 (Tk.oneAt 3 s k).2]) ∧ Below w.heap.size w w' := by
  have hx : s[k].toNat < 256 := s[k].toNat_lt
  have HB := Lib.hid (Tk.byte_eq hk)
  have HL := Lib.hid hL
  have HO : Hid (Tk.oneAt 3 s k = (⟨1, s.extract k (Tk.runEnd Tk.isInner s (k + 1)), 0, k⟩, Tk.over 32 (Tk.runEnd Tk.isInner s (k + 1) - k))) := by
    apply Lib.hid
    unfold Tk.oneAt
    rw [HB.out, HL.out]
    rfl
  rw [HO.out]
  clear hL HO
  go_enter Tryd.func40, Tryd.ntmps40
  go_wp2_with fail
  refine (rletter_any _ hx _).mono ?_
  rintro e w1 ⟨rfl, rfl⟩
  rw [HL.out]
  go_wp2_with fail
  go_loop [8] (fun i => ∃ m : Nat, k + 1 ≤ m ∧ m ≤ s.size ∧ i = .int .i64 m ∧ Hid (Tk.runEnd Tk.isInner s (k + 1) = Tk.runEnd Tk.isInner s m)) (fun i => s.size - (intOf i).toNat)
  case atStart => exact ⟨k + 1, by omega, by omega, by go_num, Lib.hid rfl⟩
  case round =>
    obtain ⟨m, hm1, hm, rfl, HM⟩ := hrel
    by_cases hml : m < s.size
    · have hx2 : s[m].toNat < 256 := s[m].toNat_lt
      cases h1 : Tk.isLetter s[m].toNat
      · have H1 := Lib.hid h1
        cases h2 : Tk.isDigit s[m].toNat
        · have H2 := Lib.hid h2
          by_cases h3 : s[m].toNat = 95
          · have HE := Lib.hid (Tk.runEnd_on (p := Tk.isInner) hml (by unfold Tk.isInner; rw [h1, h2, h3]; rfl))
            have t1 : ((s[m].toNat : Int) == 95) = true := by simp; omega
            clear h1 h2 h3
            go_wp2_with fail
            refine (rletter_any _ hx2 _).mono ?_
            rintro e w1 ⟨rfl, rfl⟩
            rw [H1.out]
            go_wp2_with fail
            refine (rdigit_any _ hx2 _).mono ?_
            rintro e w1 ⟨rfl, rfl⟩
            rw [H2.out]
            go_wp2_with fail
            go_round
            case rel => exact ⟨m + 1, by omega, by omega, by go_num, Lib.hid (by rw [HM.out, HE.out])⟩
            case measure => simp [intOf]; omega
          · have HE := Lib.hid (Tk.runEnd_stop (p := Tk.isInner) hml (by unfold Tk.isInner; rw [h1, h2]; simp [h3]))
            have t1 : ((s[m].toNat : Int) == 95) = false := by simp; omega
            have HM2 := Lib.hid (HM.out.trans HE.out)
            clear h1 h2 h3
            have hki : (k : Int) ≤ (m : Int) := by omega
            by_cases h32 : 32 < m - k
            · have h32i : (32 : Int) < (m : Int) - (k : Int) := by omega
              go_wp2_with fail
              refine (rletter_any _ hx2 _).mono ?_
              rintro e w1 ⟨rfl, rfl⟩
              rw [H1.out]
              go_wp2_with fail
              refine (rdigit_any _ hx2 _).mono ?_
              rintro e w1 ⟨rfl, rfl⟩
              rw [H2.out]
              go_wp2_with fail
              (try simp only [Exit.inBlock, Exit.then])
              refine bodyPost_ret (v := .tuple #[(⟨1, s.extract k m, 0, k⟩ : Tk.Tok).val, .int .i64 3]) ?_ rfl ⟨?_, ?_⟩
              · rw [results_cell_tmp rfl]
                go_simp
                try rfl
              · rw [HM2.out, show Tk.over 32 (m - k) = 3 from if_pos h32]
                rfl
              · go_grown
            · have h32i : ¬ (32 : Int) < (m : Int) - (k : Int) := by omega
              go_wp2_with fail
              refine (rletter_any _ hx2 _).mono ?_
              rintro e w1 ⟨rfl, rfl⟩
              rw [H1.out]
              go_wp2_with fail
              refine (rdigit_any _ hx2 _).mono ?_
              rintro e w1 ⟨rfl, rfl⟩
              rw [H2.out]
              go_wp2_with fail
              (try simp only [Exit.inBlock, Exit.then])
              refine bodyPost_ret (v := .tuple #[(⟨1, s.extract k m, 0, k⟩ : Tk.Tok).val, .int .i64 0]) ?_ rfl ⟨?_, ?_⟩
              · rw [results_cell_tmp rfl]
                go_simp
                try rfl
              · rw [HM2.out, show Tk.over 32 (m - k) = 0 from if_neg h32]
                rfl
              · go_grown
        · have HE := Lib.hid (Tk.runEnd_on (p := Tk.isInner) hml (by unfold Tk.isInner; rw [h1, h2]; rfl))
          have H2 := Lib.hid h2
          clear h1 h2
          go_wp2_with fail
          refine (rletter_any _ hx2 _).mono ?_
          rintro e w1 ⟨rfl, rfl⟩
          rw [H1.out]
          go_wp2_with fail
          refine (rdigit_any _ hx2 _).mono ?_
          rintro e w1 ⟨rfl, rfl⟩
          rw [H2.out]
          go_wp2_with fail
          go_round
          case rel => exact ⟨m + 1, by omega, by omega, by go_num, Lib.hid (by rw [HM.out, HE.out])⟩
          case measure => simp [intOf]; omega
      · have HE := Lib.hid (Tk.runEnd_on (p := Tk.isInner) hml (by unfold Tk.isInner; rw [h1]; rfl))
        have H1 := Lib.hid h1
        clear h1
        go_wp2_with fail
        refine (rletter_any _ hx2 _).mono ?_
        rintro e w1 ⟨rfl, rfl⟩
        rw [H1.out]
        go_wp2_with fail
        go_round
        case rel => exact ⟨m + 1, by omega, by omega, by go_num, Lib.hid (by rw [HM.out, HE.out])⟩
        case measure => simp [intOf]; omega
    · obtain rfl : m = s.size := by omega
      have HE := Lib.hid (Tk.runEnd_end (p := Tk.isInner) (s := s) (Nat.le_refl _))
      have HM2 := Lib.hid (HM.out.trans HE.out)
      clear hml
      have hki : (k : Int) ≤ (s.size : Int) := by omega
      by_cases h32 : 32 < s.size - k
      · have h32i : (32 : Int) < (s.size : Int) - (k : Int) := by omega
        go_wp2_with fail
        (try simp only [Exit.inBlock, Exit.then])
        refine bodyPost_ret (v := .tuple #[(⟨1, s.extract k s.size, 0, k⟩ : Tk.Tok).val, .int .i64 3]) ?_ rfl ⟨?_, ?_⟩
        · rw [results_cell_tmp rfl]
          go_simp
          try rfl
        · rw [HM2.out, show Tk.over 32 (s.size - k) = 3 from if_pos h32]
          rfl
        · go_grown
      · have h32i : ¬ (32 : Int) < (s.size : Int) - (k : Int) := by omega
        go_wp2_with fail
        (try simp only [Exit.inBlock, Exit.then])
        refine bodyPost_ret (v := .tuple #[(⟨1, s.extract k s.size, 0, k⟩ : Tk.Tok).val, .int .i64 0]) ?_ rfl ⟨?_, ?_⟩
        · rw [results_cell_tmp rfl]
          go_simp
          try rfl
        · rw [HM2.out, show Tk.over 32 (s.size - k) = 0 from if_neg h32]
          rfl
        · go_grown
end Go.Proofs.YtoomlpalkinipaaDoor
