/- The document's Less. -/
import Derived.Test.YtdjccepchleacaaTabMath6
set_option linter.unusedVariables false
set_option linter.unusedSimpArgs false
namespace Go.Proofs.Ytdjccepchleacaa
open Go.RowKit
theorem Tb.less_drop (a b : List UInt8) (k : Nat) (ha : k < a.length) (hb : k < b.length) : Op.bytesLess (a.drop k) (b.drop k) = (decide (a[k] < b[k]) || (a[k] == b[k] && Op.bytesLess (a.drop (k + 1)) (b.drop (k + 1)))) := by
  rw [List.drop_eq_getElem_cons ha, List.drop_eq_getElem_cons hb]
  rfl
set_option maxRecDepth 100000 in
set_option maxHeartbeats 4000000 in
theorem less5_any (a b : ByteArray) (h0 : a.size ≤ maxLen) (h1 : b.size ≤ maxLen) (w : World) :
    Calls Try.prog 36 #[.string a, .string b] w fun e w' => e = .returned (.bool (Tb.less a b)) ∧ ∃ q, w' = w.drewN q := by
  unfold maxLen at h0 h1
  obtain ⟨R, HR⟩ : ∃ R, Hid (Tb.less a b = R) := ⟨_, Lib.hid rfl⟩
  rw [HR.out]
  have HR0 : Hid (R = Op.bytesLess (a.data.toList.drop 0) (b.data.toList.drop 0)) := Lib.hid (by rw [← HR.out, List.drop_zero, List.drop_zero]; unfold Tb.less; rw [Lib.toList_data, Lib.toList_data])
  go_enter Try.func36, Try.ntmps36
  go_wp2_with fail
  go_loopw [5] (fun i wr => ∃ k q : Nat, k ≤ a.size ∧ k ≤ b.size ∧ i = .int .i64 k ∧ Hid (R = Op.bytesLess (a.data.toList.drop k) (b.data.toList.drop k)) ∧ Hid (wr = w.drewN q)) (fun i _ => a.size - (intOf i).toNat)
  case atStart => exact ⟨0, 0, by omega, by omega, rfl, HR0, Lib.hid rfl⟩
  case round =>
    obtain ⟨k, q, ha, hb, rfl, HK, HW⟩ := hrel
    obtain rfl := HW.out
    by_cases la : k < a.size
    · by_cases lb : k < b.size
      · have i0 : (0 : Int) ≤ (k : Int) := by omega
        have i1 : (k : Int) < (a.size : Int) := by omega
        have i2 : (k : Int) < (b.size : Int) := by omega
        have HD := Lib.hid (Tb.less_drop a.data.toList b.data.toList k (by simpa using la) (by simpa using lb))
        have HN : Hid (R = (decide (a[k] < b[k]) || (a[k] == b[k] && Op.bytesLess (a.data.toList.drop (k + 1)) (b.data.toList.drop (k + 1))))) := Lib.hid (HK.out.trans HD.out)
        clear HK HD HW
        by_cases hxy : a[k] = b[k]
        · have t1 : ((a[k].toNat : Int) != (b[k].toNat : Int)) = false := by rw [hxy]; simp
          have HE : Hid (R = Op.bytesLess (a.data.toList.drop (k + 1)) (b.data.toList.drop (k + 1))) := Lib.hid (by rw [HN.out, hxy]; simp)
          clear HN hxy
          go_wp2_with fail
          go_quiet (fail)
          go_wp2_with fail
          go_roundw
          case rel => exact ⟨k + 1, _, by omega, by omega, by go_num, HE, Lib.hid rfl⟩
          case measure => simp [intOf]; omega
        · have t1 : ((a[k].toNat : Int) != (b[k].toNat : Int)) = true := by rw [bne_iff_ne]; intro h; exact hxy (UInt8.toNat_inj.1 (by omega))
          have HE : Hid (R = decide (a[k].toNat < b[k].toNat)) := Lib.hid (by rw [HN.out, beq_eq_false_iff_ne.2 hxy]; simp [UInt8.lt_iff_toNat_lt])
          clear HN
          go_wp2_with fail
          go_quiet (fail)
          go_wp2_with fail
          go_quiet (fail)
          go_wp2_with fail
          go_ret
          refine ⟨?_, by simp only [World.drewN_drewN]; exact ⟨_, rfl⟩⟩
          rw [HE.out]
          simp
      · have i1 : (k : Int) < (a.size : Int) := by omega
        have i2 : ¬ (k : Int) < (b.size : Int) := by omega
        have HE : Hid (R = false) := Lib.hid (by rw [HK.out, List.drop_of_length_le (l := b.data.toList) (by simp; omega)]; cases a.data.toList.drop k <;> rfl)
        clear HK HW
        have i3 : ¬ a.size < b.size := by omega
        go_wp2_with fail
        go_ret
        refine ⟨?_, _, rfl⟩
        rw [HE.out]
        simp [i3]
    · have i1 : ¬ (k : Int) < (a.size : Int) := by omega
      have HE : Hid (R = decide (a.size < b.size)) := Lib.hid (by
        rw [HK.out, List.drop_of_length_le (l := a.data.toList) (by simp; omega)]
        by_cases h : k < b.size
        · rw [decide_eq_true (by omega), List.drop_eq_getElem_cons (by simpa using h)]; rfl
        · rw [decide_eq_false (by omega), List.drop_of_length_le (l := b.data.toList) (by simp; omega)]; rfl)
      clear HK HW
      go_wp2_with fail
      go_ret
      refine ⟨?_, _, rfl⟩
      rw [HE.out]
      simp
end Go.Proofs.Ytdjccepchleacaa
