import Derived.Test.YtdnfbkcfiiccjaaSumWhole
import Derived.Test.YtdnfbkcfiiccjaaSumWalkF
set_option linter.unusedVariables false
namespace Go.Proofs.Ytdnfbkcfiiccjaa
open Go.RowKit Go.BigFrame
theorem info_str : (Try.prog.info? 9).map (fun i => (i.zero, i.size, i.bytes)) = some (some (.string ⟨#[]⟩), 1, 16) := by kernel_rfl
namespace Sm
def strV (b : Body) : Value := .string ⟨b.1.toArray⟩
end Sm
set_option maxHeartbeats 1000000 in
theorem refall_any (s : ByteArray) (hs : s.size ≤ 1048576) (m : Nat) (xs : List Sm.Body) (hx : Sm.Run s.data.toList 0 xs m) (w : World) :
    Calls Try.prog 21 #[.string s] w fun e w' => ∃ v, e = .returned (.tuple #[v, .int .i64 m]) ∧ w'.ownsRow w.heap.size 9 1 v xs.length (xs.map Sm.strV) ∧ Below w.heap.size w w' := by
  have hsm : s.size ≤ maxLen := by unfold maxLen; omega
  have Hsm := Lib.hid hsm
  have hxl : 8 * xs.length ≤ 1048576 := by
    have h1 := Sm.run_le (by omega) hx
    have h2 : s.data.toList.length = s.size := by simp
    omega
  have Hx := Lib.hid hx
  clear hsm hx
  go_enter Try.func21, Try.ntmps21
  go_wp2
  go_loopw [4, 5] (fun l p wr => ∃ (k : Nat) (pre rest : List Sm.Body), p = .int .i64 k ∧ k ≤ s.size ∧ Hid (xs = pre ++ rest) ∧ Hid (Sm.Run s.data.toList k rest m) ∧ Hid (wr.ownsRow w.heap.size 9 1 l pre.length (pre.map Sm.strV)) ∧ Below w.heap.size w wr)
    (fun _ p _ => s.size - (intOf p).toNat)
  case atStart => exact ⟨0, [], xs, rfl, by omega, rfl, Hx, World.ownsRow_nil _ _ _ _, Below.refl _ _⟩
  case round =>
    obtain ⟨k, pre, rest, rfl, hk, HX, HR, HO, hb⟩ := hrel
    have hpl : pre.length ≤ 131072 := by
      have : xs.length = pre.length + rest.length := by rw [HX.out]; simp
      omega
    go_wp2_with fail
    refine (refnext_any s Hsm.out _ _).mono ?_
    rintro e w1 ⟨rfl, hb1⟩
    have HO1 : Hid (w1.ownsRow w.heap.size 9 1 u4 pre.length (pre.map Sm.strV)) := Lib.hid (HO.out.kept (grown_of_below hb1 none) (by
      rcases h : u4.ownBlock with _ | g
      · exact .inl rfl
      · exact .inr (by simp)))
    have hb2 := hb.trans (hb1.mono hb.size)
    cases rest with
    | nil =>
      obtain ⟨rfl, hnone⟩ := HR.out
      rw [hnone]
      simp only [Sm.nextV]
      clear HR hnone
      go_wp2
      go_ret2
      exact ⟨u4, rfl, by rw [HX.out, List.append_nil]; exact HO1.out, hb2⟩
    | cons b rest =>
      obtain ⟨hsome, hr2⟩ := HR.out
      have hle : k + 8 + b.1.length ≤ s.size := by
        obtain ⟨k2, hk2, _, hb2, _, _⟩ := Sm.nextR_some hsome
        have : s.data.toList.length = s.size := by simp
        omega
      rw [hsome]
      simp only [Sm.nextV]
      have Hr2 := Lib.hid hr2
      clear HR hsome HO hr2
      go_wp2_with (at_builtin; refine wpList_append_one rfl _ _ _ rfl w.heap.size 9 _ _ Try.underlying43 info_str rfl _ pre.length _ rfl HO1.out _ rfl rfl (by simp only [maxLen]; omega) (by omega) hb2.size ?_; intro v' w2 hown2 hb3 _; have HO2 := Lib.hid hown2; clear hown2)
      go_roundw
      case rel =>
        refine ⟨k + 8 + b.1.length, pre ++ [b], rest, by go_num, hle, by show xs = _; rw [HX.out]; simp, Hr2, ?_, hb2.trans hb3⟩
        have h := HO2.out
        rw [List.length_append, List.map_append]
        exact h
      case measure => simp [intOf]; omega
/-- A slice of texts, as it lies. -/
def ReadS (w : World) (A : Option Addr) (ls : List (List UInt8)) : Prop := 0 < ls.length → ∃ ad, A = some ad ∧ ∀ j (hj : j < ls.length), w.cell? (ad.add j) = some (.string ⟨ls[j].toArray⟩)
set_option maxHeartbeats 1000000 in
theorem same_true (A B : Option Addr) (n c d : Nat) (ls : List (List UInt8)) (hn : ls.length = n) (hm : n ≤ 9223372036854775807) (w : World) (ha : ReadS w A ls) (hb : ReadS w B ls) :
    Calls Try.prog 23 #[.slice A n c, .slice B n d] w fun e w' => e = .returned (.bool true) ∧ ∃ q, w' = w.drewN q := by
  have Hn := Lib.hid hn
  have Ha := Lib.hid ha
  have Hb := Lib.hid hb
  clear hn ha hb
  go_enter Try.func23, Try.ntmps23
  go_wp2
  go_loopw [5] (fun i wr => ∃ k q : Nat, k ≤ n ∧ i = .int .i64 k ∧ Hid (wr = w.drewN q)) (fun i _ => n - (intOf i).toNat)
  case atStart => exact ⟨0, 0, by omega, rfl, rfl⟩
  case round =>
    obtain ⟨k, q, hk, rfl, HW⟩ := hrel
    obtain rfl := HW.out
    by_cases hlt : k < n
    · have hkl : k < ls.length := by rw [Hn.out]; exact hlt
      obtain ⟨ad, rfl, hca⟩ := Ha.out (by omega)
      obtain ⟨bd, rfl, hcb⟩ := Hb.out (by omega)
      have h1 := hca k hkl
      have h2 := hcb k hkl
      have hi1 : (k : Int) < (n : Int) := by omega
      have hi0 : (0 : Int) ≤ (k : Int) := by omega
      clear hca hcb HW
      go_wp2
      go_quiet (fail)
      go_wp2
      go_roundw
      case rel => exact ⟨k + 1, _, by omega, by go_num, rfl⟩
      case measure => simp [intOf]; omega
    · go_wp2
      go_ret
      exact ⟨rfl, q, rfl⟩
end Go.Proofs.Ytdnfbkcfiiccjaa
