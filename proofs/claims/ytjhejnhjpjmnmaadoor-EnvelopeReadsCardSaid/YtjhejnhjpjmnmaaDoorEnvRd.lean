/- The reference's number and some. -/
import Derived.Test.YtjhejnhjpjmnmaaDoorEnvRdMath
set_option linter.unusedVariables false
namespace Go.Proofs.YtjhejnhjpjmnmaaDoor
open Go.RowKit
namespace Ev
theorem rnumF_stop {l : List UInt8} {k c : Nat} (hk : k < 10) (hl : k < l.length) (hc : (l.getD k 0).toNat = c) (h : c < 128) : rnumF l (10 - k) k = (acc l (k + 1), (k : Int) + 1) := by
  subst hc
  rw [show 10 - k = (9 - k) + 1 from by omega, rnumF, if_pos hl, if_pos h]
theorem rnumF_go {l : List UInt8} {k c : Nat} (hk : k < 10) (hl : k < l.length) (hc : (l.getD k 0).toNat = c) (h : 128 ≤ c) : rnumF l (10 - k) k = rnumF l (10 - (k + 1)) (k + 1) := by
  subst hc
  rw [show 10 - k = (10 - (k + 1)) + 1 from by omega, rnumF, if_pos hl, if_neg (by omega)]
theorem rnumF_end {l : List UInt8} {k : Nat} (h : k = 10 ∨ ¬ k < l.length) : rnumF l (10 - k) k = (0, -1) := by
  rcases Nat.eq_zero_or_pos (10 - k) with e | e
  · rw [e]; rfl
  · obtain ⟨g, hg⟩ : ∃ g, 10 - k = g + 1 := ⟨10 - k - 1, by omega⟩
    rw [hg, rnumF, if_neg (by omega)]
theorem acc_small (l : List UInt8) : ∀ i, i ≤ 9 → acc l i < 2 ^ (7 * i)
  | 0, _ => by simp [acc]
  | i + 1, h => by
    have ih := acc_small l i (by omega)
    have hd : (l.getD i 0).toNat % 128 ≤ 127 := by omega
    have e : 2 ^ (7 * (i + 1)) = 2 ^ (7 * i) * 128 := by rw [show 7 * (i + 1) = 7 * i + 7 from by omega, Nat.pow_add]
    simp only [acc]
    refine Nat.or_lt_two_pow (by have : 2 ^ (7 * i) ≤ 2 ^ (7 * (i + 1)) := Nat.pow_le_pow_right (by decide) (by omega); omega) ?_
    refine Nat.lt_of_le_of_lt (Nat.mod_le _ _) ?_
    have hb : (l.getD i 0).toNat % 128 * 2 ^ (7 * i) ≤ 127 * 2 ^ (7 * i) := Nat.mul_le_mul_right _ hd
    omega
theorem acc_add (l : List UInt8) (i : Nat) (h : i ≤ 9) : acc l (i + 1) = acc l i + (l.getD i 0).toNat % 128 * 2 ^ (7 * i) % 18446744073709551616 := by
  simp only [acc]
  refine or_join (7 * i) (acc_small l i h) ?_
  have e : 18446744073709551616 = 2 ^ (7 * i) * 2 ^ (64 - 7 * i) := by rw [← Nat.pow_add, show 7 * i + (64 - 7 * i) = 64 from by omega]
  rw [e, Nat.mod_mul_right_mod, Nat.mul_mod_left]
end Ev
set_option maxRecDepth 100000 in
set_option maxHeartbeats 2000000 in
theorem rnumber_any (s : ByteArray) (hs : s.size ≤ 1000000000) (p : Int) (hp : p ≤ s.size) (w : World) :
    Calls Tryd.prog 35 #[.string s, .int .i64 p] w fun e w' => e = .returned (.tuple #[.int .u64 (Ev.rnum s p).1, .int .i64 (Ev.rnum s p).2]) ∧ Below w.heap.size w w' := by
  by_cases h0 : p < 0
  · have HG : Hid (Ev.rnum s p = (0, -1)) := Lib.hid (by unfold Ev.rnum; rw [if_pos h0])
    rw [HG.out]
    have h1 : ¬ 0 ≤ p := by omega
    go_enter Tryd.func35, Tryd.ntmps35
    go_wp2_with fail
    go_loopw [7] (fun i wr => i = .int .i64 0 ∧ Hid (wr = w)) (fun _ _ => 0)
    case atStart => exact ⟨rfl, Lib.hid rfl⟩
    case round =>
      obtain ⟨rfl, HW⟩ := hrel
      obtain rfl := HW.out
      go_wp2_with fail
      go_ret2
      exact ⟨rfl, Below.refl _ _⟩
  · obtain ⟨P, rfl⟩ := Int.eq_ofNat_of_zero_le (show 0 ≤ p by omega)
    have h1 : (0 : Int) ≤ (P : Int) := by omega
    have HG : Hid (Ev.rnum s P = ((Ev.rnumF (s.data.toList.drop P) 10 0).1, if (Ev.rnumF (s.data.toList.drop P) 10 0).2 < 0 then -1 else (P : Int) + (Ev.rnumF (s.data.toList.drop P) 10 0).2)) := Lib.hid (by unfold Ev.rnum; rw [if_neg h0, Int.toNat_natCast])
    generalize Ev.rnum s P = R at HG ⊢
    have hll : (s.data.toList.drop P).length = s.size - P := by rw [List.length_drop, Ev.list_len]
    have hgd : ∀ k, (s.data.toList.drop P).getD k 0 = s.data.toList.getD (P + k) 0 := fun k => by rw [List.getD_eq_getElem?_getD, List.getElem?_drop, List.getD_eq_getElem?_getD]
    generalize s.data.toList.drop P = L at HG hll hgd
    have HGno : Hid (Ev.rnumF L 10 0 = (0, -1) → R = (0, -1)) := Lib.hid (fun h => by rw [HG.out, h]; rfl)
    have HGyes : Hid (∀ (x : Nat) (k : Nat), Ev.rnumF L 10 0 = (x, (k : Int) + 1) → R = (x, (P : Int) + k + 1)) := Lib.hid (fun x k h => by rw [HG.out, h]; simp only; rw [if_neg (by omega)]; exact Prod.ext rfl (by show (P : Int) + ((k : Int) + 1) = _; omega))
    clear HG
    go_enter Tryd.func35, Tryd.ntmps35
    go_wp2_with fail
    go_loopw [6, 7] (fun x i wr => ∃ k q : Nat, k ≤ 10 ∧ i = .int .i64 k ∧ x = .int .u64 (Ev.acc L k) ∧ Hid (Ev.rnumF L 10 0 = Ev.rnumF L (10 - k) k) ∧ Hid (wr = w.drewN q)) (fun _ i _ => 10 - (intOf i).toNat)
    case atStart => exact ⟨0, 0, by omega, rfl, rfl, Lib.hid rfl, Lib.hid rfl⟩
    case round =>
      obtain ⟨k, q, hk, rfl, rfl, HF, HW⟩ := hrel
      obtain rfl := HW.out
      have hal := Ev.acc_lt L k
      have hbq : Below w.heap.size w (w.drewN q) := below_drewN (Below.refl _ _) q
      by_cases h10 : k < 10
      · by_cases hlt : P + k < s.size
        · have hi0 : (0 : Int) ≤ (P : Int) + (k : Int) := by omega
          have hi : (P : Int) + (k : Int) < (s.size : Int) := by omega
          have htn : ((P : Int) + (k : Int)).toNat = P + k := by omega
          have HB : Hid (L.getD k 0 = s[P + k]) := Lib.hid ((hgd k).trans (Sm.getD_byte s (P + k) hlt))
          have hx := s[P + k].toNat_lt
          have hkl : k < L.length := by omega
          have HS := Lib.hid (fun h => Ev.rnumF_stop h10 hkl (congrArg UInt8.toNat HB.out) h)
          have HN := Lib.hid (fun h => Ev.rnumF_go h10 hkl (congrArg UInt8.toNat HB.out) h)
          have hal2 := Ev.acc_lt L (k + 1)
          have HAS : Hid (IntKind.u64.wrap ((Ev.acc L k : Int) + IntKind.u64.wrap ((s[P + k].toNat : Int) % 128 * 2 ^ (7 * k))) = (Ev.acc L (k + 1) : Int)) := Lib.hid (by
            have e := Ev.acc_add L k (by omega)
            rw [HB.out] at e
            have e2 : IntKind.u64.wrap ((s[P + k].toNat : Int) % 128 * 2 ^ (7 * k)) = ((s[P + k].toNat % 128 * 2 ^ (7 * k) % 18446744073709551616 : Nat) : Int) := by
              rw [IntKind.wrap_u64, show ((2 : Int) ^ (7 * k)) = ((2 ^ (7 * k) : Nat) : Int) from by rw [Int.natCast_pow]; rfl, show ((s[P + k].toNat : Int) % 128) = ((s[P + k].toNat % 128 : Nat) : Int) from by omega, ← Int.natCast_mul]
              rfl
            rw [e2, IntKind.wrap_u64]
            omega)
          clear hgd hll hkl hal2
          go_wp2_with fail
          · go_ret2
            refine ⟨?_, hbq⟩
            rw [HGyes.out _ k (HF.out.trans (HS.out (by omega))), HAS.out]
            rfl
          · go_roundw
            case rel => exact ⟨k + 1, q, by omega, by go_num, by rw [HAS.out], Lib.hid (by rw [HF.out, HN.out (by omega)]), Lib.hid rfl⟩
            case measure => simp [intOf]; omega
        · have hi : ¬ (P : Int) + (k : Int) < (s.size : Int) := by omega
          have HE := Lib.hid (Ev.rnumF_end (l := L) (k := k) (.inr (by omega)))
          clear hgd hll
          go_wp2_with fail
          go_ret2
          refine ⟨?_, hbq⟩
          rw [HGno.out (HF.out.trans HE.out)]
          rfl
      · have HE := Lib.hid (Ev.rnumF_end (l := L) (k := k) (.inl (by omega)))
        obtain rfl : k = 10 := by omega
        clear hgd hll
        go_wp2_with fail
        go_ret2
        refine ⟨?_, hbq⟩
        rw [HGno.out (HF.out.trans HE.out)]
        rfl
set_option maxRecDepth 100000 in
set_option maxHeartbeats 2000000 in
theorem rsome_any (s : ByteArray) (hs : s.size ≤ 1000000000) (p : Int) (hp : p ≤ s.size) (w : World) :
    Calls Tryd.prog 36 #[.string s, .int .i64 p] w fun e w' => e = .returned (.tuple #[.string (Ev.rsome s p).1, .int .i64 (Ev.rsome s p).2]) ∧ Below w.heap.size w w' := by
  have hN := rnumber_any s hs p hp
  obtain ⟨f1, f2, f3⟩ := Ev.rnum_facts s p hp
  have HD : Hid (Ev.rsome s p = if (Ev.rnum s p).2 < 0 ∨ s.size < (Ev.rnum s p).2.toNat + (Ev.rnum s p).1 then (ByteArray.empty, -1) else (s.extract (Ev.rnum s p).2.toNat ((Ev.rnum s p).2.toNat + (Ev.rnum s p).1), (Ev.rnum s p).2 + (Ev.rnum s p).1)) := Lib.hid rfl
  generalize Ev.rsome s p = R at HD ⊢
  generalize Ev.rnum s p = N at *
  obtain ⟨n, t⟩ := N
  simp only at f1 f2 f3 hN HD
  have HN := Lib.hid hN
  clear hN
  go_enter Tryd.func36, Tryd.ntmps36
  by_cases ht : t < 0
  · rw [if_pos (.inl ht)] at HD
    rw [HD.out]
    go_wp2_with fail
    refine (HN.out _).mono ?_
    rintro e w1 ⟨rfl, hb1⟩
    go_wp2_with fail
    go_ret2
    exact ⟨rfl, hb1⟩
  · obtain ⟨T, rfl⟩ := Int.eq_ofNat_of_zero_le (show 0 ≤ t by omega)
    have hsub : (0 : Int) ≤ (s.size : Int) - (T : Int) := by omega
    have hw : IntKind.u64.wrap ((s.size : Int) - (T : Int)) = (s.size : Int) - T := by rw [IntKind.wrap_u64]; omega
    by_cases hc : s.size < T + n
    · rw [if_pos (.inr (by simpa using hc))] at HD
      rw [HD.out]
      have hgt : (s.size : Int) - (T : Int) < (n : Int) := by omega
      go_wp2_with fail
      refine (HN.out _).mono ?_
      rintro e w1 ⟨rfl, hb1⟩
      go_wp2_with fail
      go_ret2
      exact ⟨rfl, hb1⟩
    · rw [if_neg (by simpa [ht] using hc)] at HD
      rw [HD.out]
      have hgt : ¬ (s.size : Int) - (T : Int) < (n : Int) := by omega
      have hwn : IntKind.i64.wrap (n : Int) = n := by rw [IntKind.wrap_i64]; omega
      have hi1 : (T : Int) ≤ (T : Int) + (n : Int) := by omega
      have hi2 : (T : Int) + (n : Int) ≤ (s.size : Int) := by omega
      have htn : ((T : Int) + (n : Int)).toNat = T + n := by omega
      go_wp2_with fail
      refine (HN.out _).mono ?_
      rintro e w1 ⟨rfl, hb1⟩
      go_wp2_with fail
      go_ret2
      exact ⟨rfl, hb1⟩
end Go.Proofs.YtjhejnhjpjmnmaaDoor
