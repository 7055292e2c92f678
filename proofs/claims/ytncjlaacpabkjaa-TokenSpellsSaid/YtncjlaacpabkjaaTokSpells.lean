/- TokenSpells: the walk. -/
import Derived.Test.YtncjlaacpabkjaaTokSpellQ
import Derived.Test.YtncjlaacpabkjaaTokWakes
import Derived.Test.YtncjlaacpabkjaaAppend
import Derived.Test.YtncjlaacpabkjaaLie
set_option linter.unusedVariables false
namespace Go.Proofs.Ytncjlaacpabkjaa
open Go.RowKit
namespace Tk
def ITok.cells (t : ITok) : List Value := [.int .u8 t.kind, .string t.text, .int .i64 t.num, .int .i64 t.at_]
theorem ITok.len (t : ITok) : t.cells.length = 4 := rfl
theorem ITok.one (t : ITok) : ∀ u ∈ t.cells, u.oneCell' = true := by
  intro u hu
  simp [ITok.cells] at hu
  rcases hu with rfl | rfl | rfl | rfl <;> rfl
theorem lieI {w : World} {A : Option Addr} {ls : List ITok} (h : Lie w A (ls.flatMap ITok.cells)) : ReadI w A ls := fun h0 => by
  obtain ⟨g, off, e, _⟩ := h.get ITok.len h0 (by omega)
  refine ⟨g, off, e, fun j hj => ?_⟩
  obtain ⟨g', off', e', hc⟩ := h.get ITok.len hj (by omega)
  rw [e] at e'
  injection e' with e'
  injection e' with e1 e2
  subst e1 e2
  exact ⟨hc 0 _ rfl, hc 1 _ rfl, hc 2 _ rfl, hc 3 _ rfl⟩
end Tk
set_option maxHeartbeats 1000000 in
theorem tsame_i (A B : Option Addr) (n c d : Nat) (ls : List Tk.ITok) (hn : ls.length = n) (hm : n ≤ 9223372036854775807) (w : World) (ha : Tk.ReadI w A ls) (hb : Tk.ReadI w B ls) :
    Calls Try.prog 9 #[.slice A n c, .slice B n d] w fun e w' => e = .returned (.bool true) ∧ ∃ q, w' = w.drewN q := by
  have Hn := Lib.hid hn
  have Ha := Lib.hid ha
  have Hb := Lib.hid hb
  clear hn ha hb
  go_enter Try.func9, Try.ntmps9
  go_wp2
  go_loopw [5] (fun i wr => ∃ k q : Nat, k ≤ n ∧ i = .int .i64 k ∧ Hid (wr = w.drewN q)) (fun i _ => n - (intOf i).toNat)
  case atStart => exact ⟨0, 0, by omega, rfl, rfl⟩
  case round =>
    obtain ⟨k, q, hk, rfl, HW⟩ := hrel
    obtain rfl := HW.out
    by_cases hlt : k < n
    · have hkl : k < ls.length := by rw [Hn.out]; exact hlt
      obtain ⟨ag, ao, rfl, hca⟩ := Ha.out (by omega)
      obtain ⟨bg, bo, rfl, hcb⟩ := Hb.out (by omega)
      obtain ⟨a0, a1, a2, a3⟩ := hca k hkl
      obtain ⟨b0, b1, b2, b3⟩ := hcb k hkl
      have hi1 : (k : Int) < (n : Int) := by omega
      have hi0 : (0 : Int) ≤ (k : Int) := by omega
      clear hca hcb HW
      generalize ls[k].kind = x0 at *
      generalize ls[k].text = x1 at *
      generalize ls[k].num = x2 at *
      generalize ls[k].at_ = x3 at *
      go_wp2
      go_quiet (fail)
      go_wp2
      go_roundw
      case rel => exact ⟨k + 1, _, by omega, by go_num, rfl⟩
      case measure => simp [intOf]; omega
    · go_wp2
      go_ret
      exact ⟨rfl, q, rfl⟩
set_option maxRecDepth 100000 in
set_option maxHeartbeats 4000000 in
theorem tokenSpells_walk (A : Option Addr) (n c : Nat) (ls : List Tk.ITok) (w : World) (hn : ls.length = n) (hm : n ≤ 9223372036854775807) (hA : A = none → n = 0 ∧ c = 0) (hl : Lie w A (ls.flatMap Tk.ITok.cells)) :
    Calls Try.prog 5 #[.slice A n c] w fun e w' => e = .returned (.bool true) ∧ Below w.heap.size w w' := by
  have Hn := Lib.hid hn
  have Hl := Lib.hid hl
  have HA := Lib.hid hA
  clear hn hl hA
  by_cases hg : 300 < n
  · have hgi : (300 : Int) < (n : Int) := by omega
    go_enter Try.func5, Try.ntmps5
    go_wp2_with fail
    refine (wakes_any _).mono ?_
    rintro e w1 ⟨rfl, hb⟩
    go_wp2_with fail
    go_ret
    exact ⟨rfl, hb⟩
  have hgi : ¬ (300 : Int) < (n : Int) := by omega
  go_enter Try.func5, Try.ntmps5
  go_wp2_with fail
  go_loop [3] (fun i => ∃ k : Nat, k ≤ n ∧ i = .int .i64 k ∧ ∀ j (hj : j < ls.length), j < k → ls[j].text.size ≤ 300) (fun i => n - (intOf i).toNat)
  case atStart => exact ⟨0, by omega, rfl, fun _ _ h => absurd h (by omega)⟩
  case round =>
    obtain ⟨k, hk, rfl, hal⟩ := hrel
    have HAL := Lib.hid hal
    clear hal
    by_cases hlt : k < n
    · have hkl : k < ls.length := by rw [Hn.out]; exact hlt
      obtain ⟨ag, ao, rfl, hca⟩ := (Tk.lieI Hl.out) (by omega)
      obtain ⟨a0, a1, a2, a3⟩ := hca k hkl
      have hki : (k : Int) < (n : Int) := by omega
      clear hca a0 a2 a3
      have HLK : Hid (ls[k].text.size ≤ 300 → ∀ j (hj : j < ls.length), j < k + 1 → ls[j].text.size ≤ 300) := Lib.hid (fun h j hj hjk => by
        rcases Nat.lt_or_ge j k with h' | h'
        · exact HAL.out j hj h'
        · obtain rfl : j = k := by omega
          exact h)
      generalize ls[k].text = t at *
      by_cases ht : 300 < t.size
      · have hti : (300 : Int) < (t.size : Int) := by omega
        go_wp2_with fail
        refine (wakes_any _).mono ?_
        rintro e w1 ⟨rfl, hb⟩
        go_wp2_with fail
        go_ret
        exact ⟨rfl, hb⟩
      · have hti : ¬ (300 : Int) < (t.size : Int) := by omega
        go_wp2_with fail
        go_round
        case rel => exact ⟨k + 1, by omega, by go_num, HLK.out (by omega)⟩
        case measure => simp [intOf]; omega
    · obtain rfl : k = n := by omega
      have hsz : ∀ t ∈ ls, t.text.size ≤ 65536 := fun t ht => by
        obtain ⟨j, hj, rfl⟩ := List.getElem_of_mem ht
        exact Nat.le_trans (HAL.out j hj (by rw [Hn.out] at hj; exact hj)) (by omega)
      have HS := Lib.hid hsz
      clear hsz hlt
      have hnew := World.ownsRow_made w #[] 0 (base := w.heap.size) (e := 30) (size := 4) (Nat.le_refl _) (by unfold maxLen; omega) (by simp)
      have HNW := Lib.hid hnew
      clear hnew
      go_wp2_with (at_builtin; go_must (refine wpList_append_src rfl (.tmp 27) (.tmp 28) _ rfl w.heap.size 30 _ 4 40 Try.underlying22 info_tok rfl (by decide) _ 0 [] rfl HNW.out _ k c (ls.flatMap Tk.ITok.cells) rfl HA.out (by rw [flat_len Tk.ITok.len, Hn.out]) (Hl.out.alloc _).src (flat_one Tk.ITok.one ls) (by simp only [maxLen]; omega) (by omega) (by simp) ?_))
      intro v' w1 hown hgr hbl
      obtain ⟨A2, c2, rfl, hl2, hn2, _, _, _⟩ := Lie.of_own hown
      have hb1 : Below w.heap.size w w1 := ((Below.refl _ _).alloc (Nat.le_refl _) _).trans hbl
      have HR2 := Lib.hid (Tk.lieI hl2)
      have HR1 := Lib.hid ((Tk.lieI Hl.out).below hb1)
      clear hl2 hgr hown
      go_wp2_with fail
      refine (spell_any A2 k c2 ls Hn.out (by omega) HS.out _ HR2.out).mono ?_
      rintro e w2 ⟨rfl, hb2⟩
      generalize hP : Tk.spell ls = p at *
      obtain ⟨ps, pe⟩ := p
      have HP := Lib.hid hP
      clear hP
      go_wp2_with fail
      refine (rspell_any A k c ls Hn.out (by omega) HS.out _ (HR1.out.below hb2)).mono ?_
      rintro e w3 ⟨rfl, hb3⟩
      rw [HP.out]
      go_wp2_with fail
      refine (tsame_i A A2 k c c2 ls Hn.out (by omega) _ ((HR1.out.below hb2).below hb3) ((HR2.out.below hb2).below hb3)).mono ?_
      rintro e w4 ⟨rfl, q, rfl⟩
      go_wp2_with fail
      refine (wakes_any _).mono ?_
      rintro e w5 ⟨rfl, hb5⟩
      go_wp2_with fail
      go_ret
      exact ⟨rfl, bl_join (below_drewN (bl_join (bl_join hb1 hb2) hb3) q) hb5⟩
end Go.Proofs.Ytncjlaacpabkjaa
