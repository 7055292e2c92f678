/- (*token.reader).skip: the place goes to the gap's end. -/
import Derived.Test.YtoomlpalkinipaaDoorTokReader
set_option linter.unusedVariables false
namespace Go.Proofs.YtoomlpalkinipaaDoor
open Go.RowKit
set_option maxRecDepth 100000 in
set_option maxHeartbeats 4000000 in
theorem skip_any (s : ByteArray) (hs : s.size ≤ maxLen) (b k : Nat) (hk : k ≤ s.size) (w : World) (h : Tk.Rd w b s k) :
    Calls Tryd.prog 48 #[.pointer (some ⟨b, 0, none⟩)] w fun e w' => e = .returned (.tuple #[]) ∧ w.grownBy w' (some b) ∧ Tk.Rd w' b s (Tk.gapEnd false s k) := by
  have hs2 := hs
  unfold maxLen at hs
  go_enter Tryd.func48, Tryd.ntmps48
  go_wp2
  go_loopg [2] (s.size - k + 1) (fun n c wr => ∃ j, n = s.size - j + 1 ∧ j ≤ s.size ∧ Tk.Rd wr b s j ∧ Hid (Tk.gapEnd false s k = Tk.gapEnd false s j) ∧ w.grownBy wr (some b))
  case atStart => exact ⟨k, rfl, hk, h, Lib.hid rfl, grown_refl _ _⟩
  case round =>
    obtain ⟨j, rfl, hj, hR, HG, hgr⟩ := hrel
    have c0 := hR.c0
    have c1 := hR.c1
    have f1 := hR.f1
    by_cases hlt : j < s.size
    · have hx : s[j].toNat < 256 := s[j].toNat_lt
      have hji : (j : Int) < (s.size : Int) := by omega
      have hjs : (j : Int) + 1 ≤ 9223372036854775807 := by omega
      go_wp2
      go_quiet (fail)
      go_wp2
      go_quiet (fail)
      cases hb : Tk.isBlank s[j].toNat
      · obtain ⟨n1, n2, n3, n4⟩ := Tk.isBlank_no hb
        have t1 : ((s[j].toNat : Int) == 32) = false := by simp; omega
        have t2 : ((s[j].toNat : Int) == 9) = false := by simp; omega
        have t3 : ((s[j].toNat : Int) == 10) = false := by simp; omega
        have t4 : ((s[j].toNat : Int) == 13) = false := by simp; omega
        have hp := Tk.prefix2 (s := s) (k := j) 47 47 hlt
        cases hpp : Lib.hasPrefix (Tk.from_ s j) [47, 47]
        · have HS := Lib.hid (Tk.gapEnd_stop hlt hb (by
            rintro ⟨e1, h', e2⟩
            have := hp.2 ⟨UInt8.toNat_inj.1 e1, h', UInt8.toNat_inj.1 e2⟩
            rw [hpp] at this; cases this))
          have HP := Lib.hid hpp
          have HC := Lib.hid (calls_val (Tryd.strings_HasPrefix (s.extract j s.size) ⟨#[47, 47]⟩) (v' := .bool false) (by rw [Tk.extract_list, hpp]))
          clear hb n1 n2 n3 n4 hp hpp
          go_wp2
          go_quiet ((go_at_call 54; go_must (exact calls_q HC.out)))
          go_wp2
          (try simp only [Exit.inBlock, Exit.then])
          refine bodyPost_ret (results_none rfl _ _ _) rfl ?_
          exact ⟨rfl, (by repeat (first | exact hgr | refine grown_trans ?_ (grown_drewN _ _ _) | refine grown_trans ?_ (grown_set _ _ _ _))), by rw [HG.out, HS.out]; exact hR⟩
        · have hp' := hp.1 hpp
          obtain ⟨e1, h2, e2⟩ := hp'
          have HS := Lib.hid (Tk.gapEnd_remark hlt h2 (by rw [e1]; rfl) (by rw [e2]; rfl))
          have HC := Lib.hid (calls_val (Tryd.strings_HasPrefix (s.extract j s.size) ⟨#[47, 47]⟩) (v' := .bool true) (by rw [Tk.extract_list, hpp]))
          clear hb n1 n2 n3 n4 hp hpp e2
          by_cases hi : Lib.indexByte (Tk.from_ s j) 10 = -1
          · have HD := Lib.hid (calls_val (Tryd.strings_IndexByte (s.extract j s.size) 10) (v' := .int .i64 (-1)) (by rw [Tk.extract_list]; exact congrArg _ hi))
            have HE := Lib.hid (Tk.gapEnd_none hj hi)
            clear hi e1
            go_wp2
            go_quiet ((go_at_call 54; go_must (exact calls_q HC.out)))
            go_wp2
            go_quiet ((go_at_call 53; go_must (exact calls_q HD.out)))
            go_wp2
            go_roundg 1
            case rel => exact ⟨s.size, by omega, Nat.le_refl _, Tk.Rd.set hR _, Lib.hid (by rw [HG.out, HS.out, HE.out, Tk.gapEnd_end _ (Nat.le_refl _)]), (by repeat (first | exact hgr | refine grown_trans ?_ (grown_drewN _ _ _) | refine grown_trans ?_ (grown_set _ _ _ _)))⟩
            case measure => omega
          · have hge := Lib.indexByte_ge (Tk.from_ s j) 10
            obtain ⟨d, hd⟩ : ∃ d : Nat, Lib.indexByte (Tk.from_ s j) 10 = (d : Int) := ⟨(Lib.indexByte (Tk.from_ s j) 10).toNat, by omega⟩
            have HD := Lib.hid (calls_val (Tryd.strings_IndexByte (s.extract j s.size) 10) (v' := .int .i64 d) (by rw [Tk.extract_list]; exact congrArg _ hd))
            obtain ⟨he1, he2⟩ := Tk.gapEnd_idx hlt hd
            have hd1 := Tk.idx_pos hlt (by rw [e1]; decide) hd
            have hjd : (j : Int) + (d : Int) ≤ 9223372036854775807 := by omega
            have HE := Lib.hid he1
            clear hi hge hd he1 e1
            go_wp2
            go_quiet ((go_at_call 54; go_must (exact calls_q HC.out)))
            go_wp2
            go_quiet ((go_at_call 53; go_must (exact calls_q HD.out)))
            go_wp2
            rw [show (j : Int) + (d : Int) = ((j + d : Nat) : Int) from by simp]
            go_roundg (s.size - (j + d) + 1)
            case rel => exact ⟨j + d, rfl, by omega, Tk.Rd.set hR _, Lib.hid (by rw [HG.out, HS.out, HE.out]), (by repeat (first | exact hgr | refine grown_trans ?_ (grown_drewN _ _ _) | refine grown_trans ?_ (grown_set _ _ _ _)))⟩
            case measure => omega
      · have HS := Lib.hid (Tk.gapEnd_blank hlt hb)
        rcases Tk.isBlank_yes hb with h | h | h | h
        all_goals
          have ht := Lib.hid h
          clear hb
          go_wp2
          rw [show (j : Int) + 1 = ((j + 1 : Nat) : Int) from by simp]
          go_roundg (s.size - (j + 1) + 1)
          case rel => exact ⟨j + 1, rfl, by omega, Tk.Rd.set hR _, Lib.hid (by rw [HG.out, HS.out]), (by repeat (first | exact hgr | refine grown_trans ?_ (grown_drewN _ _ _) | refine grown_trans ?_ (grown_set _ _ _ _)))⟩
          case measure => omega
    · obtain rfl : j = s.size := by omega
      go_wp2
      go_quiet (fail)
      go_wp2
      go_end0
      exact ⟨rfl, (by repeat (first | exact hgr | refine grown_trans ?_ (grown_drewN _ _ _) | refine grown_trans ?_ (grown_set _ _ _ _))), by rw [HG.out, Tk.gapEnd_end _ (Nat.le_refl _)]; exact hR⟩
end Go.Proofs.YtoomlpalkinipaaDoor
