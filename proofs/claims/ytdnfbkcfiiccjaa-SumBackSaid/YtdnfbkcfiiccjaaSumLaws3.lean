import Derived.Test.YtdnfbkcfiiccjaaSumLaws2
import Derived.Test.YtdnfbkcfiiccjaaBytes
set_option linter.unusedVariables false
namespace Go.Proofs.Ytdnfbkcfiiccjaa
open Go.RowKit Go.BigFrame
attribute [local go_sem] bl_imp
namespace Sm
/-- The place that a law picks in a text of L bytes. -/
def place (a : Int) (L : Nat) : Nat := if a.tmod L < 0 then (a.tmod L + L).toNat else (a.tmod L).toNat
theorem tmod_bounds (a : Int) {L : Nat} (hL : 0 < L) : -(L : Int) < a.tmod L ∧ a.tmod L < L := by
  have h1 := Int.tmod_lt_of_pos a (b := (L : Int)) (by omega)
  have h2 := Int.lt_tmod_of_pos a (b := (L : Int)) (by omega)
  exact ⟨h2, h1⟩
theorem place_lt (a : Int) {L : Nat} (hL : 0 < L) : place a L < L := by
  have := tmod_bounds a hL
  unfold place
  split <;> omega
end Sm
set_option maxHeartbeats 1000000 in
theorem sumSpoilt_walk (b : ByteArray) (a c : Int) (r : ByteArray) (hb : b.size ≤ maxLen) (ha : (Lit.int .i64 a).wf = true) (hc : (Lit.int .u8 c).wf = true) (hr : r.size ≤ maxLen) (w : World) :
    Calls Try.prog 5 #[.string b, .int .i64 a, .int .u8 c, .string r] w fun e w' => e = .returned (.bool true) ∧ Below w.heap.size w w' := by
  clear ha
  have hc2 : 0 ≤ c ∧ c ≤ 255 := by simpa [Lit.wf, IntKind.min, IntKind.max, IntKind.signed, IntKind.bits] using hc
  clear hc hb hr
  obtain ⟨l, rfl⟩ := Sm.of_list b
  by_cases h1 : 4096 < l.length
  · go_enter Try.func5, Try.ntmps5
    go_wp2_with fail
    refine (awake_any _).mono ?_
    rintro e w1 ⟨rfl, hb1⟩
    go_wp2
    all_goals go_ret
    all_goals exact ⟨rfl, hb1⟩
  · by_cases h2 : 4096 < r.size
    · go_enter Try.func5, Try.ntmps5
      go_wp2_with fail
      refine (awake_any _).mono ?_
      rintro e w1 ⟨rfl, hb1⟩
      go_wp2
      all_goals go_ret
      all_goals exact ⟨rfl, hb1⟩
    · have hfl := Sm.frame_length l
      have hL : 0 < l.length + 8 := by omega
      obtain ⟨ht1, ht2⟩ := Sm.tmod_bounds a hL
      have ecast : ((l.length + 8 : Nat) : Int) = (l.length : Int) + 8 := by omega
      rw [ecast] at ht1 ht2
      obtain ⟨t, ht⟩ : ∃ t, a.tmod ((l.length : Int) + 8) = t := ⟨_, rfl⟩
      rw [ht] at ht1 ht2
      go_enter Try.func5, Try.ntmps5
      go_wp2_with fail
      refine (awake_any _).mono ?_
      rintro e w1 ⟨rfl, hb1⟩
      go_wp2_with fail
      refine (frame_any l (by omega) _).mono ?_
      rintro e w2 ⟨rfl, hb2⟩
      have hk : ∃ k : Nat, k < l.length + 8 ∧ ((t < 0 ∧ t + ((l.length : Int) + 8) = (k : Int)) ∨ t = (k : Int)) := by
        by_cases hneg : t < 0
        · exact ⟨(t + ((l.length : Int) + 8)).toNat, by omega, .inl ⟨hneg, by omega⟩⟩
        · exact ⟨t.toNat, by omega, .inr (by omega)⟩
      obtain ⟨k, hk, ⟨hneg, hkt⟩ | rfl⟩ := hk
      all_goals
        have HC := Lib.hid (Sm.nextR_cut l (by omega) k hk)
        have HX := Lib.hid (show (⟨(Sm.frame l).toArray⟩ : ByteArray).extract 0 k = ⟨((Sm.frame l).take k).toArray⟩ by rw [Lib.extract_eq]; simp)
        have hm : (⟨((Sm.frame l).take k).toArray⟩ : ByteArray).size ≤ maxLen := by simp [ByteArray.size_mk', maxLen, hfl]; omega
        have Hm := Lib.hid hm
        clear hm
        go_wp2_with fail
        rw [HX.out]
        refine (next_any _ Hm.out _ _).mono ?_
        rintro e w3 ⟨rfl, hb3⟩
        rw [HC.out]
        simp only [Sm.nextV]
        obtain ⟨cap, w4, hrun, hby, hb4, hlt4, hcap⟩ := bytes_of_list w3 (Sm.frame l)
        rw [hfl] at hrun
        have Hcap := Lib.hid hcap
        clear hcap
        by_cases h4 : k < 4
        · go_wp2
          all_goals go_ret
          all_goals exact ⟨rfl, bl_join hb1 (bl_join hb2 (bl_join hb3 hb4))⟩
        · by_cases h0 : c = 0
          · subst h0
            go_wp2
            all_goals go_ret
            all_goals exact ⟨rfl, bl_join hb1 (bl_join hb2 (bl_join hb3 hb4))⟩
          · obtain ⟨cn, rfl⟩ := Int.eq_ofNat_of_zero_le hc2.1
            have hcn : cn < 256 := by omega
            have hcn0 : cn ≠ 0 := by omega
            have hc0 : ((cn : Int) == 0) = false := by rw [beq_eq_false_iff_ne]; exact h0
            have hkf : k < (Sm.frame l).length := by omega
            have hcell := hby.cell k hkf
            have hfree := hby.free k hkf
            have hxor := xor_byte (Sm.frame l)[k].toNat cn (Sm.frame l)[k].toNat_lt hcn
            have hne := xor_byte_ne (Sm.frame l)[k] cn hcn hcn0
            have hbs := hby.set k (UInt8.ofNat ((Sm.frame l)[k].toNat ^^^ cn)) hkf
            have hrun2 := string_of_bytes hbs cap
            have hlen : ((Sm.frame l).set k (UInt8.ofNat ((Sm.frame l)[k].toNat ^^^ cn))).length = l.length + 8 := by rw [List.length_set]; exact hfl
            rw [hlen] at hrun2
            have Hhlen := Lib.hid hlen
            have HN := Lib.hid (Sm.nextR_spoilt l r.data.toList (by omega) k (by omega) hk (UInt8.ofNat ((Sm.frame l)[k].toNat ^^^ cn)) (by
              rw [List.getElem?_eq_getElem hkf]; intro he; injection he with he; exact hne he.symm))
            clear hne h0 hlen hbs
            generalize hX : UInt8.ofNat ((Sm.frame l)[k].toNat ^^^ cn) = X at *
            clear hX
            obtain ⟨l2, hl2⟩ : ∃ l2, (Sm.frame l).set k X = l2 := ⟨_, rfl⟩
            rw [hl2] at hrun2 HN Hhlen
            clear hl2
            have hm2 : (⟨l2.toArray⟩ ++ r : ByteArray).size ≤ maxLen := by simp only [ByteArray.size_append, ByteArray.size_mk', List.size_toArray, maxLen]; have := Hhlen.out; omega
            have Hm2 := Lib.hid hm2
            have hl2a : l2.length ≤ 4104 := by have := Hhlen.out; omega
            clear hm2 hfl hby
            go_wp2_with fail
            refine (next_any _ Hm2.out _ _).mono ?_
            rintro e w5 ⟨rfl, hb5⟩
            rw [show (⟨l2.toArray⟩ ++ r : ByteArray).data.toList = l2 ++ r.data.toList by simp, HN.out]
            simp only [Sm.nextV]
            go_wp2
            go_ret
            have hb6 : Below w3.heap.size w3 _ := hb4.setCell (p := ⟨w3.heap.size, k, none⟩) (Nat.le_refl _) (.int .u8 (X.toNat : Int))
            exact ⟨rfl, bl_join hb1 (bl_join hb2 (bl_join hb3 (bl_join hb6 hb5)))⟩

end Go.Proofs.Ytdnfbkcfiiccjaa
