import Derived.Test.YtoomlpalkinipaaDoorTokWalkB
import Derived.Laws.ResultCell
set_option linter.unusedVariables false
namespace Go.Proofs.YtoomlpalkinipaaDoor
open Go.RowKit
set_option maxRecDepth 100000 in
set_option maxHeartbeats 2000000 in
theorem rone_other (s : ByteArray) (hs : s.size ≤ 65536) (k : Nat) (hk : k < s.size) (hL : Tk.isLetter s[k].toNat = false) (hD : Tk.isDigit s[k].toNat = false) (hS : Tk.isSign s[k].toNat = false) (w : World) :
    Calls Tryd.prog 40 #[.string s, .int .i64 k] w fun e w' => e = .returned (.tuple #[(Tk.oneAt 3 s k).1.val, .int .i64 (Tk.oneAt 3 s k).2]) ∧ Below w.heap.size w w' := by
  have hx : s[k].toNat < 256 := s[k].toNat_lt
  have HB := Lib.hid (Tk.byte_eq hk)
  have HL := Lib.hid hL
  have HD := Lib.hid hD
  have HS := Lib.hid hS
  obtain ⟨n1, n2, n3, n4, n5, n6, n7, n8⟩ := Tk.sign_none hS
  have g0 : ((s[k].toNat : Int) == 123) = false := by simp; omega
  have g1 : ((s[k].toNat : Int) == 125) = false := by simp; omega
  have g2 : ((s[k].toNat : Int) == 40) = false := by simp; omega
  have g3 : ((s[k].toNat : Int) == 41) = false := by simp; omega
  have g4 : ((s[k].toNat : Int) == 59) = false := by simp; omega
  have g5 : ((s[k].toNat : Int) == 58) = false := by simp; omega
  have g6 : ((s[k].toNat : Int) == 44) = false := by simp; omega
  have g7 : ((s[k].toNat : Int) == 46) = false := by simp; omega
  clear n1 n2 n3 n4 n5 n6 n7 n8 hL hD hS
  by_cases h45 : s[k].toNat = 45
  · have t1 : ((s[k].toNat : Int) == 45) = true := by simp; omega
    by_cases h2 : k + 1 < s.size
    · have HB2 := Lib.hid (Tk.byte_eq h2)
      have h2i : (k : Int) + 1 < (s.size : Int) := by omega
      by_cases h62 : s[k + 1].toNat = 62
      · have t2 : ((s[k + 1].toNat : Int) == 62) = true := by simp; omega
        have HO : Hid (Tk.oneAt 3 s k = (⟨3, Tk.arrow, 0, k⟩, 0)) := by
          apply Lib.hid
          unfold Tk.oneAt
          rw [HB.out, HL.out, HD.out, HS.out, HB2.out]
          simp [h45, h2, h62]
        clear h45 h62
        rw [HO.out]
        go_enter Tryd.func40, Tryd.ntmps40
        go_wp2_with fail
        refine (rletter_any _ hx _).mono ?_
        rintro e w1 ⟨rfl, rfl⟩
        rw [HL.out]
        go_wp2_with fail
        refine (rdigit_any _ hx _).mono ?_
        rintro e w1 ⟨rfl, rfl⟩
        rw [HD.out]
        go_wp2_with fail
        (try simp only [Exit.inBlock, Exit.then])
        refine bodyPost_ret (v := .tuple #[(⟨3, Tk.arrow, 0, k⟩ : Tk.Tok).val, .int .i64 0]) ?_ rfl ⟨rfl, ?_⟩
        · rw [results_cell_tmp rfl]
          go_simp
          try rfl
        · go_grown
      · have t2 : ((s[k + 1].toNat : Int) == 62) = false := by simp; omega
        have HO : Hid (Tk.oneAt 3 s k = (⟨3, Tk.empty, 0, k⟩, 110)) := by
          apply Lib.hid
          unfold Tk.oneAt
          rw [HB.out, HL.out, HD.out, HS.out, HB2.out]
          simp [h62]
        clear h45 h62
        rw [HO.out]
        go_enter Tryd.func40, Tryd.ntmps40
        go_wp2_with fail
        refine (rletter_any _ hx _).mono ?_
        rintro e w1 ⟨rfl, rfl⟩
        rw [HL.out]
        go_wp2_with fail
        refine (rdigit_any _ hx _).mono ?_
        rintro e w1 ⟨rfl, rfl⟩
        rw [HD.out]
        go_wp2_with fail
        (try simp only [Exit.inBlock, Exit.then])
        refine bodyPost_ret (v := .tuple #[(⟨3, Tk.empty, 0, k⟩ : Tk.Tok).val, .int .i64 110]) ?_ rfl ⟨rfl, ?_⟩
        · rw [results_cell_tmp rfl]
          go_simp
          try rfl
        · go_grown
    · have HO : Hid (Tk.oneAt 3 s k = (⟨3, Tk.empty, 0, k⟩, 110)) := by
        apply Lib.hid
        unfold Tk.oneAt
        rw [HB.out, HL.out, HD.out, HS.out]
        simp [h2]
      clear h45
      rw [HO.out]
      go_enter Tryd.func40, Tryd.ntmps40
      go_wp2_with fail
      refine (rletter_any _ hx _).mono ?_
      rintro e w1 ⟨rfl, rfl⟩
      rw [HL.out]
      go_wp2_with fail
      refine (rdigit_any _ hx _).mono ?_
      rintro e w1 ⟨rfl, rfl⟩
      rw [HD.out]
      go_wp2_with fail
      (try simp only [Exit.inBlock, Exit.then])
      refine bodyPost_ret (v := .tuple #[(⟨3, Tk.empty, 0, k⟩ : Tk.Tok).val, .int .i64 110]) ?_ rfl ⟨rfl, ?_⟩
      · rw [results_cell_tmp rfl]
        go_simp
        try rfl
      · go_grown
  · have t1 : ((s[k].toNat : Int) == 45) = false := by simp; omega
    have HO : Hid (Tk.oneAt 3 s k = (⟨3, Tk.empty, 0, k⟩, 110)) := by
      apply Lib.hid
      unfold Tk.oneAt
      rw [HB.out, HL.out, HD.out, HS.out]
      simp [h45]
    clear h45
    rw [HO.out]
    go_enter Tryd.func40, Tryd.ntmps40
    go_wp2_with fail
    refine (rletter_any _ hx _).mono ?_
    rintro e w1 ⟨rfl, rfl⟩
    rw [HL.out]
    go_wp2_with fail
    refine (rdigit_any _ hx _).mono ?_
    rintro e w1 ⟨rfl, rfl⟩
    rw [HD.out]
    go_wp2_with fail
    (try simp only [Exit.inBlock, Exit.then])
    refine bodyPost_ret (v := .tuple #[(⟨3, Tk.empty, 0, k⟩ : Tk.Tok).val, .int .i64 110]) ?_ rfl ⟨rfl, ?_⟩
    · rw [results_cell_tmp rfl]
      go_simp
      try rfl
    · go_grown
set_option maxRecDepth 100000 in
set_option maxHeartbeats 2000000 in
theorem rone_sign (s : ByteArray) (hs : s.size ≤ 65536) (k : Nat) (hk : k < s.size) (hL : Tk.isLetter s[k].toNat = false) (hD : Tk.isDigit s[k].toNat = false) (hS : Tk.isSign s[k].toNat = true) (w : World) :
    Calls Tryd.prog 40 #[.string s, .int .i64 k] w fun e w' => e = .returned (.tuple #[(Tk.oneAt 3 s k).1.val, .int .i64 (Tk.oneAt 3 s k).2]) ∧ Below w.heap.size w w' := by
  have hx : s[k].toNat < 256 := s[k].toNat_lt
  have HB := Lib.hid (Tk.byte_eq hk)
  have HL := Lib.hid hL
  have HD := Lib.hid hD
  have HS := Lib.hid hS
  have HO : Hid (Tk.oneAt 3 s k = (⟨3, s.extract k (k + 1), 0, k⟩, 0)) := by
    apply Lib.hid
    unfold Tk.oneAt
    rw [HB.out, HL.out, HD.out, HS.out]
    simp
  rw [HO.out]
  clear hL hD
  rcases Tk.sign_cases hS with h | h | h | h | h | h | h | h
  · have g0 : ((s[k].toNat : Int) == 123) = true := by simp; omega
    have g1 : ((s[k].toNat : Int) == 125) = false := by simp; omega
    have g2 : ((s[k].toNat : Int) == 40) = false := by simp; omega
    have g3 : ((s[k].toNat : Int) == 41) = false := by simp; omega
    have g4 : ((s[k].toNat : Int) == 59) = false := by simp; omega
    have g5 : ((s[k].toNat : Int) == 58) = false := by simp; omega
    have g6 : ((s[k].toNat : Int) == 44) = false := by simp; omega
    have g7 : ((s[k].toNat : Int) == 46) = false := by simp; omega
    clear h hS
    go_enter Tryd.func40, Tryd.ntmps40
    go_wp2_with fail
    refine (rletter_any _ hx _).mono ?_
    rintro e w1 ⟨rfl, rfl⟩
    rw [HL.out]
    go_wp2_with fail
    refine (rdigit_any _ hx _).mono ?_
    rintro e w1 ⟨rfl, rfl⟩
    rw [HD.out]
    go_wp2_with fail
    (try simp only [Exit.inBlock, Exit.then])
    refine bodyPost_ret (v := .tuple #[(⟨3, s.extract k (k + 1), 0, k⟩ : Tk.Tok).val, .int .i64 0]) ?_ rfl ⟨rfl, ?_⟩
    · rw [results_cell_tmp rfl]
      go_simp
      try rfl
    · go_grown
  · have g0 : ((s[k].toNat : Int) == 123) = false := by simp; omega
    have g1 : ((s[k].toNat : Int) == 125) = true := by simp; omega
    have g2 : ((s[k].toNat : Int) == 40) = false := by simp; omega
    have g3 : ((s[k].toNat : Int) == 41) = false := by simp; omega
    have g4 : ((s[k].toNat : Int) == 59) = false := by simp; omega
    have g5 : ((s[k].toNat : Int) == 58) = false := by simp; omega
    have g6 : ((s[k].toNat : Int) == 44) = false := by simp; omega
    have g7 : ((s[k].toNat : Int) == 46) = false := by simp; omega
    clear h hS
    go_enter Tryd.func40, Tryd.ntmps40
    go_wp2_with fail
    refine (rletter_any _ hx _).mono ?_
    rintro e w1 ⟨rfl, rfl⟩
    rw [HL.out]
    go_wp2_with fail
    refine (rdigit_any _ hx _).mono ?_
    rintro e w1 ⟨rfl, rfl⟩
    rw [HD.out]
    go_wp2_with fail
    (try simp only [Exit.inBlock, Exit.then])
    refine bodyPost_ret (v := .tuple #[(⟨3, s.extract k (k + 1), 0, k⟩ : Tk.Tok).val, .int .i64 0]) ?_ rfl ⟨rfl, ?_⟩
    · rw [results_cell_tmp rfl]
      go_simp
      try rfl
    · go_grown
  · have g0 : ((s[k].toNat : Int) == 123) = false := by simp; omega
    have g1 : ((s[k].toNat : Int) == 125) = false := by simp; omega
    have g2 : ((s[k].toNat : Int) == 40) = true := by simp; omega
    have g3 : ((s[k].toNat : Int) == 41) = false := by simp; omega
    have g4 : ((s[k].toNat : Int) == 59) = false := by simp; omega
    have g5 : ((s[k].toNat : Int) == 58) = false := by simp; omega
    have g6 : ((s[k].toNat : Int) == 44) = false := by simp; omega
    have g7 : ((s[k].toNat : Int) == 46) = false := by simp; omega
    clear h hS
    go_enter Tryd.func40, Tryd.ntmps40
    go_wp2_with fail
    refine (rletter_any _ hx _).mono ?_
    rintro e w1 ⟨rfl, rfl⟩
    rw [HL.out]
    go_wp2_with fail
    refine (rdigit_any _ hx _).mono ?_
    rintro e w1 ⟨rfl, rfl⟩
    rw [HD.out]
    go_wp2_with fail
    (try simp only [Exit.inBlock, Exit.then])
    refine bodyPost_ret (v := .tuple #[(⟨3, s.extract k (k + 1), 0, k⟩ : Tk.Tok).val, .int .i64 0]) ?_ rfl ⟨rfl, ?_⟩
    · rw [results_cell_tmp rfl]
      go_simp
      try rfl
    · go_grown
  · have g0 : ((s[k].toNat : Int) == 123) = false := by simp; omega
    have g1 : ((s[k].toNat : Int) == 125) = false := by simp; omega
    have g2 : ((s[k].toNat : Int) == 40) = false := by simp; omega
    have g3 : ((s[k].toNat : Int) == 41) = true := by simp; omega
    have g4 : ((s[k].toNat : Int) == 59) = false := by simp; omega
    have g5 : ((s[k].toNat : Int) == 58) = false := by simp; omega
    have g6 : ((s[k].toNat : Int) == 44) = false := by simp; omega
    have g7 : ((s[k].toNat : Int) == 46) = false := by simp; omega
    clear h hS
    go_enter Tryd.func40, Tryd.ntmps40
    go_wp2_with fail
    refine (rletter_any _ hx _).mono ?_
    rintro e w1 ⟨rfl, rfl⟩
    rw [HL.out]
    go_wp2_with fail
    refine (rdigit_any _ hx _).mono ?_
    rintro e w1 ⟨rfl, rfl⟩
    rw [HD.out]
    go_wp2_with fail
    (try simp only [Exit.inBlock, Exit.then])
    refine bodyPost_ret (v := .tuple #[(⟨3, s.extract k (k + 1), 0, k⟩ : Tk.Tok).val, .int .i64 0]) ?_ rfl ⟨rfl, ?_⟩
    · rw [results_cell_tmp rfl]
      go_simp
      try rfl
    · go_grown
  · have g0 : ((s[k].toNat : Int) == 123) = false := by simp; omega
    have g1 : ((s[k].toNat : Int) == 125) = false := by simp; omega
    have g2 : ((s[k].toNat : Int) == 40) = false := by simp; omega
    have g3 : ((s[k].toNat : Int) == 41) = false := by simp; omega
    have g4 : ((s[k].toNat : Int) == 59) = true := by simp; omega
    have g5 : ((s[k].toNat : Int) == 58) = false := by simp; omega
    have g6 : ((s[k].toNat : Int) == 44) = false := by simp; omega
    have g7 : ((s[k].toNat : Int) == 46) = false := by simp; omega
    clear h hS
    go_enter Tryd.func40, Tryd.ntmps40
    go_wp2_with fail
    refine (rletter_any _ hx _).mono ?_
    rintro e w1 ⟨rfl, rfl⟩
    rw [HL.out]
    go_wp2_with fail
    refine (rdigit_any _ hx _).mono ?_
    rintro e w1 ⟨rfl, rfl⟩
    rw [HD.out]
    go_wp2_with fail
    (try simp only [Exit.inBlock, Exit.then])
    refine bodyPost_ret (v := .tuple #[(⟨3, s.extract k (k + 1), 0, k⟩ : Tk.Tok).val, .int .i64 0]) ?_ rfl ⟨rfl, ?_⟩
    · rw [results_cell_tmp rfl]
      go_simp
      try rfl
    · go_grown
  · have g0 : ((s[k].toNat : Int) == 123) = false := by simp; omega
    have g1 : ((s[k].toNat : Int) == 125) = false := by simp; omega
    have g2 : ((s[k].toNat : Int) == 40) = false := by simp; omega
    have g3 : ((s[k].toNat : Int) == 41) = false := by simp; omega
    have g4 : ((s[k].toNat : Int) == 59) = false := by simp; omega
    have g5 : ((s[k].toNat : Int) == 58) = true := by simp; omega
    have g6 : ((s[k].toNat : Int) == 44) = false := by simp; omega
    have g7 : ((s[k].toNat : Int) == 46) = false := by simp; omega
    clear h hS
    go_enter Tryd.func40, Tryd.ntmps40
    go_wp2_with fail
    refine (rletter_any _ hx _).mono ?_
    rintro e w1 ⟨rfl, rfl⟩
    rw [HL.out]
    go_wp2_with fail
    refine (rdigit_any _ hx _).mono ?_
    rintro e w1 ⟨rfl, rfl⟩
    rw [HD.out]
    go_wp2_with fail
    (try simp only [Exit.inBlock, Exit.then])
    refine bodyPost_ret (v := .tuple #[(⟨3, s.extract k (k + 1), 0, k⟩ : Tk.Tok).val, .int .i64 0]) ?_ rfl ⟨rfl, ?_⟩
    · rw [results_cell_tmp rfl]
      go_simp
      try rfl
    · go_grown
  · have g0 : ((s[k].toNat : Int) == 123) = false := by simp; omega
    have g1 : ((s[k].toNat : Int) == 125) = false := by simp; omega
    have g2 : ((s[k].toNat : Int) == 40) = false := by simp; omega
    have g3 : ((s[k].toNat : Int) == 41) = false := by simp; omega
    have g4 : ((s[k].toNat : Int) == 59) = false := by simp; omega
    have g5 : ((s[k].toNat : Int) == 58) = false := by simp; omega
    have g6 : ((s[k].toNat : Int) == 44) = true := by simp; omega
    have g7 : ((s[k].toNat : Int) == 46) = false := by simp; omega
    clear h hS
    go_enter Tryd.func40, Tryd.ntmps40
    go_wp2_with fail
    refine (rletter_any _ hx _).mono ?_
    rintro e w1 ⟨rfl, rfl⟩
    rw [HL.out]
    go_wp2_with fail
    refine (rdigit_any _ hx _).mono ?_
    rintro e w1 ⟨rfl, rfl⟩
    rw [HD.out]
    go_wp2_with fail
    (try simp only [Exit.inBlock, Exit.then])
    refine bodyPost_ret (v := .tuple #[(⟨3, s.extract k (k + 1), 0, k⟩ : Tk.Tok).val, .int .i64 0]) ?_ rfl ⟨rfl, ?_⟩
    · rw [results_cell_tmp rfl]
      go_simp
      try rfl
    · go_grown
  · have g0 : ((s[k].toNat : Int) == 123) = false := by simp; omega
    have g1 : ((s[k].toNat : Int) == 125) = false := by simp; omega
    have g2 : ((s[k].toNat : Int) == 40) = false := by simp; omega
    have g3 : ((s[k].toNat : Int) == 41) = false := by simp; omega
    have g4 : ((s[k].toNat : Int) == 59) = false := by simp; omega
    have g5 : ((s[k].toNat : Int) == 58) = false := by simp; omega
    have g6 : ((s[k].toNat : Int) == 44) = false := by simp; omega
    have g7 : ((s[k].toNat : Int) == 46) = true := by simp; omega
    clear h hS
    go_enter Tryd.func40, Tryd.ntmps40
    go_wp2_with fail
    refine (rletter_any _ hx _).mono ?_
    rintro e w1 ⟨rfl, rfl⟩
    rw [HL.out]
    go_wp2_with fail
    refine (rdigit_any _ hx _).mono ?_
    rintro e w1 ⟨rfl, rfl⟩
    rw [HD.out]
    go_wp2_with fail
    (try simp only [Exit.inBlock, Exit.then])
    refine bodyPost_ret (v := .tuple #[(⟨3, s.extract k (k + 1), 0, k⟩ : Tk.Tok).val, .int .i64 0]) ?_ rfl ⟨rfl, ?_⟩
    · rw [results_cell_tmp rfl]
      go_simp
      try rfl
    · go_grown
end Go.Proofs.YtoomlpalkinipaaDoor
