import Derived.Test.YtoomlpalkinipaaDoorTokWalkAR
set_option linter.unusedVariables false
namespace Go.Proofs.YtoomlpalkinipaaDoor
open Go.RowKit
set_option maxHeartbeats 1000000 in
theorem rgap_any (s : ByteArray) (hs : s.size ≤ maxLen) (k : Nat) (hk : k ≤ s.size) (w : World) :
    Calls Tryd.prog 39 #[.string s, .int .i64 k] w fun e w' => e = .returned (.int .i64 (Tk.gapEnd false s k)) ∧ w = w' := by
  unfold maxLen at hs
  go_enter Tryd.func39, Tryd.ntmps39
  go_wp2
  go_loop [1] (fun i => ∃ j : Nat, j ≤ s.size ∧ i = .int .i64 j ∧ Hid (Tk.gapEnd false s k = Tk.gapEnd false s j)) (fun i => s.size - (intOf i).toNat)
  case atStart => exact ⟨k, hk, rfl, Lib.hid rfl⟩
  case round =>
    obtain ⟨j, hj, rfl, HG⟩ := hrel
    by_cases hlt : j < s.size
    · have hx : s[j].toNat < 256 := s[j].toNat_lt
      cases hb : Tk.isBlank s[j].toNat
      · obtain ⟨n1, n2, n3, n4⟩ := Tk.isBlank_no hb
        have t1 : ((s[j].toNat : Int) == 32) = false := by simp; omega
        have t2 : ((s[j].toNat : Int) == 9) = false := by simp; omega
        have t3 : ((s[j].toNat : Int) == 10) = false := by simp; omega
        have t4 : ((s[j].toNat : Int) == 13) = false := by simp; omega
        by_cases h47 : s[j].toNat = 47
        · have t5 : ((s[j].toNat : Int) == 47) = true := by simp; omega
          by_cases h2 : j + 1 < s.size
          · by_cases h48 : s[j + 1].toNat = 47
            · have HS := Lib.hid (Tk.gapEnd_remark hlt h2 h47 h48)
              have t6 : ((s[j + 1].toNat : Int) == 47) = true := by simp; omega
              have h2i : (j : Int) + 1 < (s.size : Int) := by omega
              clear hb n1 n2 n3 n4 h47 h48
              go_wp2
              go_loop [1] (fun i => ∃ m : Nat, j ≤ m ∧ m ≤ s.size ∧ i = .int .i64 m ∧ Hid (Tk.gapEnd false s j = Tk.gapEnd true s m) ∧ Hid (m = j → (s[j].toNat : Int) = 47)) (fun i => s.size - (intOf i).toNat)
              case atStart => exact ⟨j, Nat.le_refl _, by omega, rfl, HS, Lib.hid (fun _ => by simpa using t5)⟩
              case round =>
                obtain ⟨m, hjm, hm, rfl, HM, HN⟩ := hrel
                by_cases hml : m < s.size
                · by_cases h10 : s[m].toNat = 10
                  · have HE := Lib.hid (Tk.gapEnd_line hml h10)
                    have t7 : ((s[m].toNat : Int) == 10) = true := by simp; omega
                    have hne : j ≠ m := by
                      rintro rfl
                      have := HN.out rfl
                      omega
                    clear h10
                    go_wp2
                    go_round
                    case rel => exact ⟨m, by omega, rfl, Lib.hid (by rw [HG.out, HM.out, HE.out])⟩
                    case measure => simp [intOf]; omega
                  · have HE := Lib.hid (Tk.gapEnd_on hml h10)
                    have t7 : ((s[m].toNat : Int) == 10) = false := by simp; omega
                    clear h10
                    go_wp2
                    go_round
                    case rel => exact ⟨m + 1, by omega, by omega, by go_num, Lib.hid (by rw [HM.out, HE.out]), Lib.hid (by omega)⟩
                    case measure => simp [intOf]; omega
                · obtain rfl : m = s.size := by omega
                  clear hml
                  go_wp2
                  go_round
                  case rel => exact ⟨s.size, by omega, rfl, Lib.hid (by rw [HG.out, HM.out, Tk.gapEnd_end _ (Nat.le_refl _), Tk.gapEnd_end _ (Nat.le_refl _)])⟩
                  case measure => simp [intOf]; omega
            · have HS := Lib.hid (Tk.gapEnd_stop hlt hb (by rintro ⟨_, h', e⟩; exact h48 e))
              have t6 : ((s[j + 1].toNat : Int) == 47) = false := by simp; omega
              have h2i : (j : Int) + 1 < (s.size : Int) := by omega
              clear hb n1 n2 n3 n4 h47 h48
              go_wp2
              go_ret
              exact ⟨by rw [HG.out, HS.out]; rfl, rfl⟩
          · have HS := Lib.hid (Tk.gapEnd_stop hlt hb (by rintro ⟨_, h', e⟩; exact h2 h'))
            clear hb n1 n2 n3 n4 h47
            go_wp2
            go_ret
            exact ⟨by rw [HG.out, HS.out]; rfl, rfl⟩
        · have HS := Lib.hid (Tk.gapEnd_stop hlt hb (by rintro ⟨e, _⟩; exact h47 e))
          have t5 : ((s[j].toNat : Int) == 47) = false := by simp; omega
          clear hb n1 n2 n3 n4 h47
          go_wp2
          go_ret
          exact ⟨by rw [HG.out, HS.out]; rfl, rfl⟩
      · have HS := Lib.hid (Tk.gapEnd_blank hlt hb)
        rcases Tk.isBlank_yes hb with h | h | h | h
        all_goals
          have ht := Lib.hid h
          clear hb
          go_wp2
          go_round
          case rel => exact ⟨j + 1, by omega, by go_num, Lib.hid (by rw [HG.out, HS.out])⟩
          case measure => simp [intOf]; omega
    · obtain rfl : j = s.size := by omega
      clear hlt
      go_wp2
      go_ret
      exact ⟨by rw [HG.out, Tk.gapEnd_end _ (Nat.le_refl _)]; rfl, rfl⟩
end Go.Proofs.YtoomlpalkinipaaDoor
