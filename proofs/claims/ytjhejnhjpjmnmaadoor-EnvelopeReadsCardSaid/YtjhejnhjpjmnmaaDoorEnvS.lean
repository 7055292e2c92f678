/- envelope's reader: take, one, number, text. -/
import Derived.Test.YtjhejnhjpjmnmaaDoorEnvR
import Derived.Test.YtjhejnhjpjmnmaaDoorBlk
set_option linter.unusedVariables false
namespace Go.Proofs.YtjhejnhjpjmnmaaDoor
open Go.RowKit
namespace Ev
/-- A reader: what is left, and whether a fault was met. -/
abbrev St := ByteArray × Bool
def Rb (w : World) (b : Nat) (s : St) : Prop := Bk w b 52 #[.string s.1, .bool s.2]
def tk (n : Nat) (s : St) : ByteArray × St := if s.2 = true ∨ s.1.size < n then (ByteArray.empty, (s.1, true)) else (s.1.extract 0 n, (s.1.extract n s.1.size, false))
def one (s : St) : Nat × St := if (tk 1 s).2.2 then (0, (tk 1 s).2) else (((tk 1 s).1.data.toList.getD 0 0).toNat, (tk 1 s).2)
def num (s : St) : Nat × St := if s.2 = true ∨ (getv s.1.data.toList).2 ≤ 0 then (0, (s.1, true)) else ((getv s.1.data.toList).1, (tk (getv s.1.data.toList).2.toNat s).2)
def rtxt (s : St) : ByteArray × St := tk (num s).1 (num s).2
theorem Rb.c0 {w : World} {b : Nat} {s : ByteArray} {f : Bool} (h : Rb w b (s, f)) : w.cell? ⟨b, 0, none⟩ = some (.string s) := h.cell 0
theorem Rb.c1 {w : World} {b : Nat} {s : ByteArray} {f : Bool} (h : Rb w b (s, f)) : w.cell? ⟨b, 1, none⟩ = some (.bool f) := h.cell 1
theorem tk_bad {n : Nat} {s : ByteArray} : tk n (s, true) = (ByteArray.empty, (s, true)) := by unfold tk; rw [if_pos (.inl rfl)]
theorem tk_short {n : Nat} {s : ByteArray} {f : Bool} (h : s.size < n) : tk n (s, f) = (ByteArray.empty, (s, true)) := by unfold tk; rw [if_pos (.inr h)]
theorem tk_ok {n : Nat} {s : ByteArray} (h : n ≤ s.size) : tk n (s, false) = (s.extract 0 n, (s.extract n s.size, false)) := by unfold tk; rw [if_neg (by simp; omega)]
end Ev
set_option maxRecDepth 100000 in
set_option maxHeartbeats 2000000 in
theorem take_any (b n : Nat) (s : ByteArray) (f : Bool) (hs : s.size ≤ maxLen) (hn : n < 18446744073709551616) (w : World) (h : Ev.Rb w b (s, f)) :
    Calls Tryd.prog 33 #[.pointer (some ⟨b, 0, none⟩), .int .u64 n] w fun e w' => e = .returned (.string (Ev.tk n (s, f)).1) ∧ Ev.Rb w' b (Ev.tk n (s, f)).2 ∧ w.grownBy w' (some b) := by
  unfold maxLen at hs
  have c0 := h.c0
  have c1 := h.c1
  have f0 := Bk.frozen h 0
  have f1 := Bk.frozen h 1
  have HB := Lib.hid h
  cases f
  · by_cases hl : s.size < n
    · have HT := Lib.hid (Ev.tk_short (f := false) hl)
      rw [HT.out]
      have hi : (s.size : Int) < (n : Int) := by omega
      go_enter Tryd.func33, Tryd.ntmps33
      go_wp2_with fail
      go_ret
      exact ⟨rfl, HB.out.set_ 1 _, gb_set (gb_refl _ _) (.inl rfl) _⟩
    · have HT := Lib.hid (Ev.tk_ok (s := s) (n := n) (by omega))
      rw [HT.out]
      have hi : ¬ (s.size : Int) < (n : Int) := by omega
      have hi2 : (n : Int) ≤ (s.size : Int) := by omega
      go_enter Tryd.func33, Tryd.ntmps33
      go_wp2_with fail
      go_ret
      exact ⟨rfl, HB.out.set_ 0 _, gb_set (gb_refl _ _) (.inl rfl) _⟩
  · rw [Ev.tk_bad]
    go_enter Tryd.func33, Tryd.ntmps33
    go_wp2_with fail
    go_ret
    exact ⟨rfl, HB.out.set_ 1 _, gb_set (gb_refl _ _) (.inl rfl) _⟩
theorem Ev.tk_size (n : Nat) (s : Ev.St) : (Ev.tk n s).2.1.size ≤ s.1.size := by
  unfold Ev.tk
  split
  · exact Nat.le_refl _
  · simp
theorem Ev.tk_one {s : Ev.St} (h : (Ev.tk 1 s).2.2 = false) : 0 < (Ev.tk 1 s).1.size := by
  unfold Ev.tk at h ⊢
  split at h
  · cases h
  · rename_i hn
    rw [if_neg hn]
    simp only [not_or] at hn
    simp
    omega
set_option maxRecDepth 100000 in
set_option maxHeartbeats 2000000 in
theorem one_any (b : Nat) (s : ByteArray) (f : Bool) (hs : s.size ≤ maxLen) (w : World) (h : Ev.Rb w b (s, f)) :
    Calls Tryd.prog 30 #[.pointer (some ⟨b, 0, none⟩)] w fun e w' => e = .returned (.int .u8 (Ev.one (s, f)).1) ∧ Ev.Rb w' b (Ev.one (s, f)).2 ∧ w.grownBy w' (some b) := by
  have HT := Lib.hid (take_any b 1 s f hs (by omega) w h)
  have HO := Lib.hid (Ev.tk_one (s := (s, f)))
  have HE : Hid (Ev.one (s, f) = if (Ev.tk 1 (s, f)).2.2 then (0, (Ev.tk 1 (s, f)).2) else (((Ev.tk 1 (s, f)).1.data.toList.getD 0 0).toNat, (Ev.tk 1 (s, f)).2)) := Lib.hid rfl
  rw [HE.out]
  generalize Ev.tk 1 (s, f) = r at *
  obtain ⟨x, s', f'⟩ := r
  clear h
  cases f'
  · have h0 : 0 < x.size := HO.out rfl
    have HX := Lib.hid (Sm.getD_byte x 0 h0)
    have hi : (0 : Int) < (x.size : Int) := by omega
    go_enter Tryd.func30, Tryd.ntmps30
    go_wp2_with fail
    refine HT.out.mono ?_
    rintro e w1 ⟨rfl, hR, hg⟩
    have c1 := hR.c1
    have HR := Lib.hid hR
    clear hR
    go_wp2_with fail
    go_ret
    exact ⟨rfl, HR.out, hg⟩
  · go_enter Tryd.func30, Tryd.ntmps30
    go_wp2_with fail
    refine HT.out.mono ?_
    rintro e w1 ⟨rfl, hR, hg⟩
    have c1 := hR.c1
    have HR := Lib.hid hR
    clear hR
    go_wp2_with fail
    go_ret
    exact ⟨rfl, HR.out, hg⟩
set_option maxRecDepth 100000 in
set_option maxHeartbeats 2000000 in
theorem number_r (b : Nat) (s : ByteArray) (f : Bool) (hs : s.size ≤ maxLen) (w : World) (h : Ev.Rb w b (s, f)) :
    Calls Tryd.prog 31 #[.pointer (some ⟨b, 0, none⟩)] w fun e w' => e = .returned (.int .u64 (Ev.num (s, f)).1) ∧ Ev.Rb w' b (Ev.num (s, f)).2 ∧ w.grownBy w' (some b) := by
  have HG := Lib.hid (getVar_any s hs)
  have hgl := Ev.getvF_lt s.data.toList 10 0
  have hsl : s.data.toList.length = s.size := by simp
  have hgl2 : (Ev.getv s.data.toList).1 < 18446744073709551616 ∧ (Ev.getv s.data.toList).2 ≤ s.size ∧ -1 ≤ (Ev.getv s.data.toList).2 := by rw [← hsl]; exact hgl
  have HE : Hid (Ev.num (s, f) = if f = true ∨ (Ev.getv s.data.toList).2 ≤ 0 then (0, (s, true)) else ((Ev.getv s.data.toList).1, (Ev.tk (Ev.getv s.data.toList).2.toNat (s, f)).2)) := Lib.hid rfl
  rw [HE.out]
  clear HE hgl hsl
  generalize Ev.getv s.data.toList = g at *
  obtain ⟨x, k⟩ := g
  obtain ⟨x1, x2, x3⟩ := hgl2
  simp only at x1 x2 x3 ⊢
  have c0 := h.c0
  have c1 := h.c1
  have f1 := Bk.frozen h 1
  have HB := Lib.hid h
  have hs2 := hs
  unfold maxLen at hs2
  have HS := Lib.hid hs
  clear hs h
  cases f
  · by_cases hk : k ≤ 0
    · rw [if_pos (.inr hk)]
      go_enter Tryd.func31, Tryd.ntmps31
      go_wp2_with fail
      refine (HG.out _).mono ?_
      rintro e w1 ⟨rfl, q, rfl⟩
      go_wp2_with fail
      go_ret
      exact ⟨rfl, Bk.set_ (w := w.drewN q) HB.out 1 _, gb_set (gb_drewN (gb_refl _ _) _) (.inl rfl) _⟩
    · rw [if_neg (by simp; omega)]
      obtain ⟨j, rfl⟩ := Int.eq_ofNat_of_zero_le (show 0 ≤ k by omega)
      have hj : IntKind.u64.wrap (j : Int) = j := by rw [IntKind.wrap_u64]; omega
      go_enter Tryd.func31, Tryd.ntmps31
      go_wp2_with fail
      refine (HG.out _).mono ?_
      rintro e w1 ⟨rfl, q, rfl⟩
      go_wp2_with fail
      refine (take_any b j s false HS.out (by omega) (w.drewN q) (Bk.drewN HB.out q)).mono ?_
      rintro e w2 ⟨rfl, hR, hg⟩
      have HR := Lib.hid hR
      clear hR
      go_wp2_with fail
      go_ret
      exact ⟨rfl, HR.out, gb_trans (gb_drewN (gb_refl _ _) _) hg⟩
  · rw [if_pos (.inl rfl)]
    go_enter Tryd.func31, Tryd.ntmps31
    go_wp2_with fail
    refine (HG.out _).mono ?_
    rintro e w1 ⟨rfl, q, rfl⟩
    go_wp2_with fail
    go_ret
    exact ⟨rfl, Bk.set_ (w := w.drewN q) HB.out 1 _, gb_set (gb_drewN (gb_refl _ _) _) (.inl rfl) _⟩
theorem Ev.num_facts (s : Ev.St) : (Ev.num s).1 < 18446744073709551616 ∧ (Ev.num s).2.1.size ≤ s.1.size := by
  unfold Ev.num
  split
  · exact ⟨by simp, Nat.le_refl _⟩
  · exact ⟨(Ev.getvF_lt _ 10 0).1, Ev.tk_size _ _⟩
set_option maxRecDepth 100000 in
set_option maxHeartbeats 2000000 in
theorem text_r (b : Nat) (s : ByteArray) (f : Bool) (hs : s.size ≤ maxLen) (w : World) (h : Ev.Rb w b (s, f)) :
    Calls Tryd.prog 32 #[.pointer (some ⟨b, 0, none⟩)] w fun e w' => e = .returned (.string (Ev.rtxt (s, f)).1) ∧ Ev.Rb w' b (Ev.rtxt (s, f)).2 ∧ w.grownBy w' (some b) := by
  have HN := Lib.hid (number_r b s f hs w h)
  have hnf := Ev.num_facts (s, f)
  have HE : Hid (Ev.rtxt (s, f) = Ev.tk (Ev.num (s, f)).1 (Ev.num (s, f)).2) := Lib.hid rfl
  rw [HE.out]
  clear HE h
  generalize Ev.num (s, f) = g at *
  obtain ⟨n, s', f'⟩ := g
  simp only at hnf
  go_enter Tryd.func32, Tryd.ntmps32
  go_wp2_with fail
  refine HN.out.mono ?_
  rintro e w1 ⟨rfl, hR, hg⟩
  go_wp2_with fail
  refine (take_any b n s' f' (Nat.le_trans hnf.2 hs) hnf.1 _ hR).mono ?_
  rintro e w2 ⟨rfl, hR2, hg2⟩
  have HR := Lib.hid hR2
  clear hR2
  go_wp2_with fail
  go_ret
  exact ⟨rfl, HR.out, gb_trans hg hg2⟩
end Go.Proofs.YtjhejnhjpjmnmaaDoor
