/- TokenAlls: the walk. -/
import Derived.Test.YtncjlaacpabkjaaTokWakes
set_option linter.unusedVariables false
namespace Go.Proofs.Ytncjlaacpabkjaa
open Go.RowKit
theorem Tk.ReadT.below {w w' : World} {A : Option Addr} {ls : List Tk.Tok} (h : Tk.ReadT w A ls) (hb : Below w.heap.size w w') : Tk.ReadT w' A ls := by
  intro h0
  obtain ⟨g, off, rfl, hc⟩ := h h0
  refine ⟨g, off, rfl, fun j hj => ?_⟩
  have key : ∀ o v, w.cell? ⟨g, o, none⟩ = some v → w'.cell? ⟨g, o, none⟩ = some v := fun o v hv => by
    rw [hb.cell (p := ⟨g, o, none⟩) (World.block_lt_of_cell? w _ hv)]; exact hv
  obtain ⟨h1, h2, h3, h4⟩ := hc j hj
  exact ⟨key _ _ h1, key _ _ h2, key _ _ h3, key _ _ h4⟩
set_option maxRecDepth 100000 in
set_option maxHeartbeats 4000000 in
theorem tokenAlls_walk (s : ByteArray) (hs : s.size ≤ maxLen) (w : World) :
    Calls Try.prog 3 #[.string s] w fun e w' => e = .returned (.bool true) ∧ Below w.heap.size w w' := by
  have hs2 := hs
  unfold maxLen at hs
  by_cases h1 : 6000 < s.size
  · by_cases h2 : s.size ≤ 65536
    · have hs' : (s.extract 0 6000).size ≤ maxLen := by simp [maxLen]; omega
      go_enter Try.func3, Try.ntmps3
      go_wp2_with fail
      generalize s.extract 0 6000 = s' at hs' ⊢
      obtain ⟨R, hR⟩ : ∃ R, Tk.all s' = R := ⟨_, rfl⟩
      have HR := Lib.hid hR
      clear hR
      refine (all_any s' hs' _).mono ?_
      rintro e w1 ⟨v1, rfl, hb1, hr1⟩
      rw [HR.out] at hr1 ⊢
      obtain ⟨tl, ta, te⟩ := R
      simp only at hr1 ⊢
      obtain ⟨A1, c1, rfl, hr1, hm⟩ := Tk.row_reads hr1
      go_wp2_with fail
      refine (rall_any s' hs' _).mono ?_
      rintro e w2 ⟨v2, rfl, hb2, hr2⟩
      rw [HR.out] at hr2 ⊢
      simp only at hr2 ⊢
      obtain ⟨A2, c2, rfl, hr2, _⟩ := Tk.row_reads hr2
      go_wp2_with fail
      refine (tsame_true A1 A2 tl.length c1 c2 tl rfl hm _ (hr1.below hb2) hr2).mono ?_
      rintro e w3 ⟨rfl, q, rfl⟩
      go_wp2_with fail
      refine (wakes_any _).mono ?_
      rintro e w4 ⟨rfl, hb4⟩
      go_wp2_with fail
      go_ret
      exact ⟨rfl, bl_join (below_drewN (bl_join hb1 hb2) q) hb4⟩
    · go_enter Try.func3, Try.ntmps3
      go_wp2_with fail
      obtain ⟨R, hR⟩ : ∃ R, Tk.all s = R := ⟨_, rfl⟩
      have HR := Lib.hid hR
      clear hR
      refine (all_any s hs2 _).mono ?_
      rintro e w1 ⟨v1, rfl, hb1, hr1⟩
      rw [HR.out] at hr1 ⊢
      obtain ⟨tl, ta, te⟩ := R
      simp only at hr1 ⊢
      obtain ⟨A1, c1, rfl, hr1, hm⟩ := Tk.row_reads hr1
      go_wp2_with fail
      refine (rall_any s hs2 _).mono ?_
      rintro e w2 ⟨v2, rfl, hb2, hr2⟩
      rw [HR.out] at hr2 ⊢
      simp only at hr2 ⊢
      obtain ⟨A2, c2, rfl, hr2, _⟩ := Tk.row_reads hr2
      go_wp2_with fail
      refine (tsame_true A1 A2 tl.length c1 c2 tl rfl hm _ (hr1.below hb2) hr2).mono ?_
      rintro e w3 ⟨rfl, q, rfl⟩
      go_wp2_with fail
      refine (wakes_any _).mono ?_
      rintro e w4 ⟨rfl, hb4⟩
      go_wp2_with fail
      go_ret
      exact ⟨rfl, bl_join (below_drewN (bl_join hb1 hb2) q) hb4⟩
  · go_enter Try.func3, Try.ntmps3
    go_wp2_with fail
    obtain ⟨R, hR⟩ : ∃ R, Tk.all s = R := ⟨_, rfl⟩
    have HR := Lib.hid hR
    clear hR
    refine (all_any s hs2 _).mono ?_
    rintro e w1 ⟨v1, rfl, hb1, hr1⟩
    rw [HR.out] at hr1 ⊢
    obtain ⟨tl, ta, te⟩ := R
    simp only at hr1 ⊢
    obtain ⟨A1, c1, rfl, hr1, hm⟩ := Tk.row_reads hr1
    go_wp2_with fail
    refine (rall_any s hs2 _).mono ?_
    rintro e w2 ⟨v2, rfl, hb2, hr2⟩
    rw [HR.out] at hr2 ⊢
    simp only at hr2 ⊢
    obtain ⟨A2, c2, rfl, hr2, _⟩ := Tk.row_reads hr2
    go_wp2_with fail
    refine (tsame_true A1 A2 tl.length c1 c2 tl rfl hm _ (hr1.below hb2) hr2).mono ?_
    rintro e w3 ⟨rfl, q, rfl⟩
    go_wp2_with fail
    refine (wakes_any _).mono ?_
    rintro e w4 ⟨rfl, hb4⟩
    go_wp2_with fail
    go_ret
    exact ⟨rfl, bl_join (below_drewN (bl_join hb1 hb2) q) hb4⟩
end Go.Proofs.Ytncjlaacpabkjaa
