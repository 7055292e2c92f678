import Derived.Test.YtoomlpalkinipaaDoorTokWorld
set_option linter.unusedVariables false
namespace Go.Proofs.YtoomlpalkinipaaDoor
open Go.RowKit
set_option maxRecDepth 100000 in
set_option maxHeartbeats 4000000 in
theorem rone_digit (s : ByteArray) (hs : s.size ≤ 65536) (k : Nat) (hk : k < s.size) (hL : Tk.isLetter s[k].toNat = false) (hD : Tk.isDigit s[k].toNat = true) (E : Nat) (hE : Tk.runEnd Tk.isDigit s (k + 1) = E) (w : World) :
    Calls Tryd.prog 40 #[.string s, .int .i64 k] w fun e w' => e = .returned (.tuple #[(Tk.oneAt 3 s k).1.val, .int .i64 (Tk.oneAt 3 s k).2]) ∧ Below w.heap.size w w' := by
  have hx : s[k].toNat < 256 := s[k].toNat_lt
  have HB := Lib.hid (Tk.byte_eq hk)
  have HL := Lib.hid hL
  have HD := Lib.hid hD
  have hkE : k + 1 ≤ E := hE ▸ Tk.runEnd_ge Tk.isDigit s (k + 1)
  have hEs : E ≤ s.size := hE ▸ Tk.runEnd_le (p := Tk.isDigit) (k := k + 1) (s := s) (by omega)
  have HE := Lib.hid hE
  have HG : Hid (∀ m, k ≤ m → m < E → ∀ h : m < s.size, Tk.isDigit s[m].toNat = true) := by
    apply Lib.hid
    intro m h1 h2 h3
    by_cases hmk : m = k
    · subst hmk; exact hD
    · exact Tk.runEnd_get (k := k + 1) (by omega) (by rw [hE]; exact h2) h3
  have HO : Hid (Tk.oneAt 3 s k = if 9 < E - k then (⟨2, s.extract k E, 0, k⟩, 3)
    else if s[k].toNat = 48 ∧ 1 < E - k then (⟨2, s.extract k E, 0, k⟩, 110)
    else (⟨2, s.extract k E, Tk.num s k E, k⟩, 0)) := by
    apply Lib.hid
    unfold Tk.oneAt
    rw [HB.out, HL.out, HD.out]
    simp only [hE]
    rfl
  clear hL hD hE
  go_enter Tryd.func40, Tryd.ntmps40
  go_wp2_with fail
  refine (rletter_any _ hx _).mono ?_
  rintro e w1 ⟨rfl, rfl⟩
  rw [HL.out]
  go_wp2_with fail
  refine (rdigit_any _ hx _).mono ?_
  rintro e w1 ⟨rfl, rfl⟩
  rw [HD.out]
  go_wp2_with fail
  go_loop [8] (fun i => ∃ m : Nat, k + 1 ≤ m ∧ m ≤ s.size ∧ i = .int .i64 m ∧ Hid (Tk.runEnd Tk.isDigit s (k + 1) = Tk.runEnd Tk.isDigit s m)) (fun i => s.size - (intOf i).toNat)
  case atStart => exact ⟨k + 1, by omega, by omega, by go_num, Lib.hid rfl⟩
  case round =>
    obtain ⟨m, hm1, hm, rfl, HM⟩ := hrel
    by_cases hml : m < s.size
    · have hx2 : s[m].toNat < 256 := s[m].toNat_lt
      cases h1 : Tk.isDigit s[m].toNat
      · have HX := Lib.hid (Tk.runEnd_stop (p := Tk.isDigit) hml h1)
        have H1 := Lib.hid h1
        obtain rfl : E = m := by rw [← HE.out, HM.out, HX.out]
        clear h1
        have hki : (k : Int) ≤ (E : Int) := by omega
        by_cases h9 : 9 < E - k
        · have h9i : (9 : Int) < (E : Int) - (k : Int) := by omega
          go_wp2_with fail
          refine (rdigit_any _ hx2 _).mono ?_; rintro e w1 ⟨rfl, rfl⟩; rw [H1.out]; go_wp2_with fail
          (try simp only [Exit.inBlock, Exit.then])
          refine bodyPost_ret (v := .tuple #[(⟨2, s.extract k E, 0, k⟩ : Tk.Tok).val, .int .i64 3]) ?_ rfl ⟨?_, ?_⟩
          · rw [results_cell_tmp rfl]
            go_simp
            try rfl
          · rw [HO.out, if_pos h9]
            rfl
          · go_grown
        · have h9i : ¬ (9 : Int) < (E : Int) - (k : Int) := by omega
          by_cases h48 : s[k].toNat = 48
          · have t48 : ((s[k].toNat : Int) == 48) = true := by simp; omega
            by_cases h1k : 1 < E - k
            · have h1i : (1 : Int) < (E : Int) - (k : Int) := by omega
              have HO2 := Lib.hid (HO.out.trans ((if_neg h9).trans (if_pos ⟨h48, h1k⟩)))
              clear h48
              go_wp2_with fail
              refine (rdigit_any _ hx2 _).mono ?_; rintro e w1 ⟨rfl, rfl⟩; rw [H1.out]; go_wp2_with fail
              (try simp only [Exit.inBlock, Exit.then])
              refine bodyPost_ret (v := .tuple #[(⟨2, s.extract k E, 0, k⟩ : Tk.Tok).val, .int .i64 110]) ?_ rfl ⟨?_, ?_⟩
              · rw [results_cell_tmp rfl]
                go_simp
                try rfl
              · rw [HO2.out]
                rfl
              · go_grown
            · have h1i : ¬ (1 : Int) < (E : Int) - (k : Int) := by omega
              have HO2 := Lib.hid (HO.out.trans ((if_neg h9).trans (if_neg (fun h => h1k h.2))))
              clear h48
              go_wp2_with fail
              refine (rdigit_any _ hx2 _).mono ?_; rintro e w1 ⟨rfl, rfl⟩; rw [H1.out]; go_wp2_with fail
              go_loopw [9] (fun i wr => ∃ j n : Nat, k ≤ j ∧ j ≤ E ∧ i = .int .i64 j ∧ Hid (Tk.num s k j < 10 ^ (j - k)) ∧ wr = ((w.alloc (.cells #[.int .u8 0, .string ⟨#[]⟩, .int .i64 0, .int .i64 0] 37)).alloc (.cells #[.int .u8 2, .string (s.extract k E), .int .i64 (Tk.num s k j), .int .i64 k] 37)).drewN n) (fun i _ => s.size - (intOf i).toNat)
              case atStart => exact ⟨k, 0, by omega, by omega, by go_num, Lib.hid (by rw [Tk.num_start]; simp), by rw [Tk.num_start]; rfl⟩
              case round =>
                obtain ⟨j, n, hj1, hj2, rfl, HN, rfl⟩ := hrel
                by_cases hjl : j < E
                · have hjs : j < s.size := by omega
                  have hdig := HG.out j hj1 hjl hjs
                  have HS := Lib.hid (Tk.num_succ hj1 hjs)
                  have HN2 := Lib.hid (Tk.num_lt_succ hj1 hjs hdig HN.out)
                  have hn8 := Tk.num_small HN.out (by omega)
                  have hd1 : 48 ≤ s[j].toNat ∧ s[j].toNat ≤ 57 := by unfold Tk.isDigit at hdig; simp at hdig; omega
                  obtain ⟨hd1, hd2⟩ := hd1
                  have HV : Hid ((10 : Int) * (Tk.num s k j : Int) + ((s[j].toNat : Int) - 48) = ((Tk.num s k (j + 1) : Nat) : Int)) := Lib.hid (by rw [HS.out]; omega)
                  clear hdig
                  go_wp2_with fail
                  go_region
                  go_wp2_with fail
                  go_roundw
                  case rel => exact ⟨j + 1, n + 1, by omega, by omega, by go_num, HN2, by rw [HV.out]; exact digit_world _ _ _ _ _ _ _ _ _ _ rfl⟩
                  case measure => simp [intOf]; omega
                · obtain rfl : j = E := by omega
                  clear hjl
                  go_wp2_with fail
                  (try simp only [Exit.inBlock, Exit.then])
                  refine bodyPost_ret (v := .tuple #[(⟨2, s.extract k j, Tk.num s k j, k⟩ : Tk.Tok).val, .int .i64 0]) ?_ rfl ⟨?_, ?_⟩
                  · rw [results_cell_tmp rfl]
                    go_simp
                    try rfl
                  · rw [HO2.out]
                    rfl
                  · exact tok_below _ _ _ _ _ _ _ _
          · have t48 : ((s[k].toNat : Int) == 48) = false := by simp; omega
            have HO2 := Lib.hid (HO.out.trans ((if_neg h9).trans (if_neg (fun h => h48 h.1))))
            clear h48
            go_wp2_with fail
            refine (rdigit_any _ hx2 _).mono ?_; rintro e w1 ⟨rfl, rfl⟩; rw [H1.out]; go_wp2_with fail
            go_loopw [9] (fun i wr => ∃ j n : Nat, k ≤ j ∧ j ≤ E ∧ i = .int .i64 j ∧ Hid (Tk.num s k j < 10 ^ (j - k)) ∧ wr = ((w.alloc (.cells #[.int .u8 0, .string ⟨#[]⟩, .int .i64 0, .int .i64 0] 37)).alloc (.cells #[.int .u8 2, .string (s.extract k E), .int .i64 (Tk.num s k j), .int .i64 k] 37)).drewN n) (fun i _ => s.size - (intOf i).toNat)
            case atStart => exact ⟨k, 0, by omega, by omega, by go_num, Lib.hid (by rw [Tk.num_start]; simp), by rw [Tk.num_start]; rfl⟩
            case round =>
              obtain ⟨j, n, hj1, hj2, rfl, HN, rfl⟩ := hrel
              by_cases hjl : j < E
              · have hjs : j < s.size := by omega
                have hdig := HG.out j hj1 hjl hjs
                have HS := Lib.hid (Tk.num_succ hj1 hjs)
                have HN2 := Lib.hid (Tk.num_lt_succ hj1 hjs hdig HN.out)
                have hn8 := Tk.num_small HN.out (by omega)
                have hd1 : 48 ≤ s[j].toNat ∧ s[j].toNat ≤ 57 := by unfold Tk.isDigit at hdig; simp at hdig; omega
                obtain ⟨hd1, hd2⟩ := hd1
                have HV : Hid ((10 : Int) * (Tk.num s k j : Int) + ((s[j].toNat : Int) - 48) = ((Tk.num s k (j + 1) : Nat) : Int)) := Lib.hid (by rw [HS.out]; omega)
                clear hdig
                go_wp2_with fail
                go_region
                go_wp2_with fail
                go_roundw
                case rel => exact ⟨j + 1, n + 1, by omega, by omega, by go_num, HN2, by rw [HV.out]; exact digit_world _ _ _ _ _ _ _ _ _ _ rfl⟩
                case measure => simp [intOf]; omega
              · obtain rfl : j = E := by omega
                clear hjl
                go_wp2_with fail
                (try simp only [Exit.inBlock, Exit.then])
                refine bodyPost_ret (v := .tuple #[(⟨2, s.extract k j, Tk.num s k j, k⟩ : Tk.Tok).val, .int .i64 0]) ?_ rfl ⟨?_, ?_⟩
                · rw [results_cell_tmp rfl]
                  go_simp
                  try rfl
                · rw [HO2.out]
                  rfl
                · exact tok_below _ _ _ _ _ _ _ _
      · have HX := Lib.hid (Tk.runEnd_on (p := Tk.isDigit) hml h1)
        have H1 := Lib.hid h1
        clear h1
        go_wp2_with fail
        refine (rdigit_any _ hx2 _).mono ?_
        rintro e w1 ⟨rfl, rfl⟩
        rw [H1.out]
        go_wp2_with fail
        go_round
        case rel => exact ⟨m + 1, by omega, by omega, by go_num, Lib.hid (by rw [HM.out, HX.out])⟩
        case measure => simp [intOf]; omega
    · obtain rfl : m = s.size := by omega
      have HX := Lib.hid (Tk.runEnd_end (p := Tk.isDigit) (s := s) (Nat.le_refl _))
      obtain rfl : E = s.size := by rw [← HE.out, HM.out, HX.out]
      clear hml
      have hki : (k : Int) ≤ (s.size : Int) := by omega
      by_cases h9 : 9 < s.size - k
      · have h9i : (9 : Int) < (s.size : Int) - (k : Int) := by omega
        go_wp2_with fail
        skip
        (try simp only [Exit.inBlock, Exit.then])
        refine bodyPost_ret (v := .tuple #[(⟨2, s.extract k s.size, 0, k⟩ : Tk.Tok).val, .int .i64 3]) ?_ rfl ⟨?_, ?_⟩
        · rw [results_cell_tmp rfl]
          go_simp
          try rfl
        · rw [HO.out, if_pos h9]
          rfl
        · go_grown
      · have h9i : ¬ (9 : Int) < (s.size : Int) - (k : Int) := by omega
        by_cases h48 : s[k].toNat = 48
        · have t48 : ((s[k].toNat : Int) == 48) = true := by simp; omega
          by_cases h1k : 1 < s.size - k
          · have h1i : (1 : Int) < (s.size : Int) - (k : Int) := by omega
            have HO2 := Lib.hid (HO.out.trans ((if_neg h9).trans (if_pos ⟨h48, h1k⟩)))
            clear h48
            go_wp2_with fail
            skip
            (try simp only [Exit.inBlock, Exit.then])
            refine bodyPost_ret (v := .tuple #[(⟨2, s.extract k s.size, 0, k⟩ : Tk.Tok).val, .int .i64 110]) ?_ rfl ⟨?_, ?_⟩
            · rw [results_cell_tmp rfl]
              go_simp
              try rfl
            · rw [HO2.out]
              rfl
            · go_grown
          · have h1i : ¬ (1 : Int) < (s.size : Int) - (k : Int) := by omega
            have HO2 := Lib.hid (HO.out.trans ((if_neg h9).trans (if_neg (fun h => h1k h.2))))
            clear h48
            go_wp2_with fail
            skip
            go_loopw [9] (fun i wr => ∃ j n : Nat, k ≤ j ∧ j ≤ s.size ∧ i = .int .i64 j ∧ Hid (Tk.num s k j < 10 ^ (j - k)) ∧ wr = ((w.alloc (.cells #[.int .u8 0, .string ⟨#[]⟩, .int .i64 0, .int .i64 0] 37)).alloc (.cells #[.int .u8 2, .string (s.extract k s.size), .int .i64 (Tk.num s k j), .int .i64 k] 37)).drewN n) (fun i _ => s.size - (intOf i).toNat)
            case atStart => exact ⟨k, 0, by omega, by omega, by go_num, Lib.hid (by rw [Tk.num_start]; simp), by rw [Tk.num_start]; rfl⟩
            case round =>
              obtain ⟨j, n, hj1, hj2, rfl, HN, rfl⟩ := hrel
              by_cases hjl : j < s.size
              · have hjs : j < s.size := by omega
                have hdig := HG.out j hj1 hjl hjs
                have HS := Lib.hid (Tk.num_succ hj1 hjs)
                have HN2 := Lib.hid (Tk.num_lt_succ hj1 hjs hdig HN.out)
                have hn8 := Tk.num_small HN.out (by omega)
                have hd1 : 48 ≤ s[j].toNat ∧ s[j].toNat ≤ 57 := by unfold Tk.isDigit at hdig; simp at hdig; omega
                obtain ⟨hd1, hd2⟩ := hd1
                have HV : Hid ((10 : Int) * (Tk.num s k j : Int) + ((s[j].toNat : Int) - 48) = ((Tk.num s k (j + 1) : Nat) : Int)) := Lib.hid (by rw [HS.out]; omega)
                clear hdig
                go_wp2_with fail
                go_region
                go_wp2_with fail
                go_roundw
                case rel => exact ⟨j + 1, n + 1, by omega, by omega, by go_num, HN2, by rw [HV.out]; exact digit_world _ _ _ _ _ _ _ _ _ _ rfl⟩
                case measure => simp [intOf]; omega
              · obtain rfl : j = s.size := by omega
                clear hjl
                go_wp2_with fail
                (try simp only [Exit.inBlock, Exit.then])
                refine bodyPost_ret (v := .tuple #[(⟨2, s.extract k s.size, Tk.num s k s.size, k⟩ : Tk.Tok).val, .int .i64 0]) ?_ rfl ⟨?_, ?_⟩
                · rw [results_cell_tmp rfl]
                  go_simp
                  try rfl
                · rw [HO2.out]
                  rfl
                · exact tok_below _ _ _ _ _ _ _ _
        · have t48 : ((s[k].toNat : Int) == 48) = false := by simp; omega
          have HO2 := Lib.hid (HO.out.trans ((if_neg h9).trans (if_neg (fun h => h48 h.1))))
          clear h48
          go_wp2_with fail
          skip
          go_loopw [9] (fun i wr => ∃ j n : Nat, k ≤ j ∧ j ≤ s.size ∧ i = .int .i64 j ∧ Hid (Tk.num s k j < 10 ^ (j - k)) ∧ wr = ((w.alloc (.cells #[.int .u8 0, .string ⟨#[]⟩, .int .i64 0, .int .i64 0] 37)).alloc (.cells #[.int .u8 2, .string (s.extract k s.size), .int .i64 (Tk.num s k j), .int .i64 k] 37)).drewN n) (fun i _ => s.size - (intOf i).toNat)
          case atStart => exact ⟨k, 0, by omega, by omega, by go_num, Lib.hid (by rw [Tk.num_start]; simp), by rw [Tk.num_start]; rfl⟩
          case round =>
            obtain ⟨j, n, hj1, hj2, rfl, HN, rfl⟩ := hrel
            by_cases hjl : j < s.size
            · have hjs : j < s.size := by omega
              have hdig := HG.out j hj1 hjl hjs
              have HS := Lib.hid (Tk.num_succ hj1 hjs)
              have HN2 := Lib.hid (Tk.num_lt_succ hj1 hjs hdig HN.out)
              have hn8 := Tk.num_small HN.out (by omega)
              have hd1 : 48 ≤ s[j].toNat ∧ s[j].toNat ≤ 57 := by unfold Tk.isDigit at hdig; simp at hdig; omega
              obtain ⟨hd1, hd2⟩ := hd1
              have HV : Hid ((10 : Int) * (Tk.num s k j : Int) + ((s[j].toNat : Int) - 48) = ((Tk.num s k (j + 1) : Nat) : Int)) := Lib.hid (by rw [HS.out]; omega)
              clear hdig
              go_wp2_with fail
              go_region
              go_wp2_with fail
              go_roundw
              case rel => exact ⟨j + 1, n + 1, by omega, by omega, by go_num, HN2, by rw [HV.out]; exact digit_world _ _ _ _ _ _ _ _ _ _ rfl⟩
              case measure => simp [intOf]; omega
            · obtain rfl : j = s.size := by omega
              clear hjl
              go_wp2_with fail
              (try simp only [Exit.inBlock, Exit.then])
              refine bodyPost_ret (v := .tuple #[(⟨2, s.extract k s.size, Tk.num s k s.size, k⟩ : Tk.Tok).val, .int .i64 0]) ?_ rfl ⟨?_, ?_⟩
              · rw [results_cell_tmp rfl]
                go_simp
                try rfl
              · rw [HO2.out]
                rfl
              · exact tok_below _ _ _ _ _ _ _ _
theorem rone_any (s : ByteArray) (hs : s.size ≤ 65536) (k : Nat) (hk : k < s.size) (w : World) :
    Calls Tryd.prog 40 #[.string s, .int .i64 k] w fun e w' => e = .returned (.tuple #[(Tk.oneAt 3 s k).1.val, .int .i64 (Tk.oneAt 3 s k).2]) ∧ Below w.heap.size w w' := by
  cases hL : Tk.isLetter s[k].toNat
  · cases hD : Tk.isDigit s[k].toNat
    · cases hS : Tk.isSign s[k].toNat
      · exact rone_other s hs k hk hL hD hS w
      · exact rone_sign s hs k hk hL hD hS w
    · exact rone_digit s hs k hk hL hD _ rfl w
  · exact rone_word s hs k hk hL w
end Go.Proofs.YtoomlpalkinipaaDoor
