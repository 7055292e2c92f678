/- The reference's Right, Number, text, high, Tail. -/
import Derived.Test.YtjhejnhjpjmnmaaDoorEnvC
set_option linter.unusedVariables false
namespace Go.Proofs.YtjhejnhjpjmnmaaDoor
open Go.RowKit
set_option maxRecDepth 100000 in
set_option maxHeartbeats 4000000 in
theorem rright_any (l : Ev.Letter) (hl : l.ok) (w : World) :
    Calls Tryd.prog 25 #[l.val] w fun e w' => e = .returned (.bool (Ev.right l)) ∧ Below w.heap.size w w' := by
  obtain ⟨k0, k1, k2, k3, k4, k5, k6, k7, k8, k9⟩ := l
  have h256 := hl.1
  simp only at h256
  unfold Ev.Letter.val
  clear hl
  go_enter Tryd.func25, Tryd.ntmps25
  go_wp2_with fail
  all_goals try ((with_reducible refine (rname_any k6 _).mono ?_); rintro e w1 ⟨rfl, rfl⟩; go_wp2_with fail)
  all_goals try ((with_reducible refine (rname_any k7 _).mono ?_); rintro e w1 ⟨rfl, rfl⟩; go_wp2_with fail)
  all_goals (go_ret; refine ⟨?_, ?_⟩)
  all_goals try exact (Below.refl w.heap.size w).alloc (Nat.le_refl _) _
  all_goals refine ret_bool ?_
  all_goals ((repeat (rename (∀ (a : Act) (w : World), Code.wp _ _ _ a w → _) => HKx; clear HKx)); (repeat (rename (Act → World → Prop) => HKx; clear HKx)); (repeat (rename (Exit → Act → World → Prop) => HKx; clear HKx)))
  all_goals (simp only [Ev.right, Ev.peer]; grind)
theorem run_one (c : UInt8) (v : Value) (hv : Sm.byteV c = v) (W : World) :
    Sem.run Tryd.prog (convert 37 9 (.slice (some ⟨W.heap.size, 0, none⟩) 1 1)) (W.alloc (.cells #[v] 5)) = .ok (.string ⟨#[c]⟩) (W.alloc (.cells #[v] 5)) := by
  subst hv
  refine run_convert_bytes_back (P := Tryd.prog) _ 37 9 5 ⟨W.heap.size, 0, none⟩ 1 [c] Tryd.underlying37 Tryd.underlying5 Tryd.underlying9 ?_
  intro j hj
  have hj : j < 1 := hj
  obtain rfl : j = 0 := by omega
  simp [Sm.byteV, go_sem, Addr.add]
theorem Ev.str_eq {s : ByteArray} {l : List UInt8} (h : s.data.toList = l) : s = ⟨l.toArray⟩ := by
  subst h
  cases s
  simp
theorem ret_str {a b : ByteArray} (h : a = b) : Ending.returned (.string a) = Ending.returned (.string b) := by rw [h]
theorem Ev.byteV_rem (y : Nat) : Sm.byteV (UInt8.ofNat (y % 128 + 128)) = .int .u8 ((y : Int) % 128 + 128) := by
  unfold Sm.byteV
  rw [Sm.ofNat_toNat, Nat.mod_eq_of_lt (by omega)]
  rfl
set_option maxRecDepth 100000 in
set_option maxHeartbeats 1000000 in
theorem number_any (x : Nat) (hx : x < 18446744073709551616) (w : World) :
    Calls Tryd.prog 26 #[.int .u64 x] w fun e w' => e = .returned (.string ⟨(Ev.var x).toArray⟩) ∧ Below w.heap.size w w' := by
  have HX : Hid (x < 2 * 128 ^ 9) := Lib.hid (by simpa using hx)
  go_enter Tryd.func26, Tryd.ntmps26
  go_wp2
  go_loopw [0, 3] (fun z b wr => ∃ (f y : Nat) (S : ByteArray), S.size + f ≤ 9 ∧ z = .int .u64 y ∧ y < 18446744073709551616 ∧ Hid (y < 2 * 128 ^ f) ∧ b = .string S ∧ Hid (S.data.toList ++ Ev.varF f y = Ev.var x) ∧ Below w.heap.size w wr) (fun z _ _ => (intOf z).toNat)
  case atStart => exact ⟨9, x, ⟨#[]⟩, by decide, rfl, hx, HX, rfl, Lib.hid rfl, Below.refl _ _⟩
  case round =>
    obtain ⟨f, y, S, hsz, rfl, hy64, HY, rfl, HP, hb⟩ := hrel
    have hz := hb.size
    clear hx
    by_cases hlt : 128 ≤ y
    · obtain ⟨g, rfl⟩ : ∃ g, f = g + 1 := by
        cases f with
        | zero => have := HY.out; omega
        | succ g => exact ⟨g, rfl⟩
      have HS := Lib.hid (Ev.varF_step (f := g) hlt)
      have hrun := run_one _ _ (Ev.byteV_rem y)
      have hi : (128 : Int) ≤ (y : Int) := by omega
      have hm : (y : Int) % 128 < 128 := by omega
      have hm0 : (0 : Int) ≤ (y : Int) % 128 := by omega
      go_wp2_with fail
      go_roundw
      case rel => exact ⟨g, y / 128, S ++ ⟨#[UInt8.ofNat (y % 128 + 128)]⟩, by rw [ByteArray.size_append]; show S.size + 1 + g ≤ 9; omega, by go_num, by omega, Lib.hid (by have h := HY.out; rw [Nat.pow_succ] at h; omega), by simp, Lib.hid (by rw [← HP.out, HS.out]; simp), hb.trans ((Below.refl _ _).alloc hz _)⟩
      case measure => simp [intOf]; omega
    · have HL := Lib.hid (Ev.varF_last (f := f) (y := y) (by omega))
      have hrun := run_one _ _ (Ev.byteV_low (y := y) (by omega))
      have hi : ¬ (128 : Int) ≤ (y : Int) := by omega
      go_wp2_with fail
      go_ret
      exact ⟨ret_str (Ev.str_eq (by rw [← HP.out, HL.out]; simp)), hb.trans ((Below.refl _ _).alloc hz _)⟩
set_option maxHeartbeats 1000000 in
theorem rtext_any (s : ByteArray) (hs : s.size ≤ 1000000000) (w : World) :
    Calls Tryd.prog 27 #[.string s] w fun e w' => e = .returned (.string ⟨(Ev.txt s).toArray⟩) ∧ Below w.heap.size w w' := by
  go_enter Tryd.func27, Tryd.ntmps27
  go_wp2_with fail
  refine (number_any s.size (by omega) _).mono ?_
  rintro e w1 ⟨rfl, hb1⟩
  have hvs : (⟨(Ev.var s.size).toArray⟩ : ByteArray).size ≤ 10 := by show (Ev.var s.size).toArray.size ≤ 10; rw [List.size_toArray]; exact (Ev.var_len _).2
  go_wp2_with fail
  go_ret
  exact ⟨ret_str (Ev.str_eq (by unfold Ev.txt; simp)), hb1⟩
set_option maxHeartbeats 1000000 in
theorem tail_any (b : ByteArray) (hs : b.size ≤ maxLen) (w : World) :
    Calls Tryd.prog 15 #[.string b] w fun e w' => e = .returned (.string ⟨(Sm.le4 (Sm.crc b.data.toList)).toArray⟩) ∧ Below w.heap.size w w' := by
  have hc := Sm.crc_lt b.data.toList
  go_enter Tryd.func15, Tryd.ntmps15
  go_wp2_with fail
  refine (refcrc_any b hs _).mono ?_
  rintro e w1 ⟨rfl, rfl⟩
  generalize hn : Sm.crc b.data.toList = n at *
  have HN := Lib.hid hn
  clear hn
  have hrun := run_put n hc
  go_wp2_with fail
  go_ret
  exact ⟨by rw [HN.out]; rfl, by go_grown⟩
set_option maxRecDepth 100000 in
set_option maxHeartbeats 1000000 in
theorem high_any (x : Nat) (hx : x < 18446744073709551616) (w : World) :
    Calls Tryd.prog 28 #[.int .u64 x, .int .i64 8] w fun e w' => e = .returned (.string ⟨(Ev.big x 8).toArray⟩) ∧ Below w.heap.size w w' := by
  go_enter Tryd.func28, Tryd.ntmps28
  go_wp2
  go_loopw [5, 6] (fun b i wr => ∃ (k : Nat) (S : ByteArray), S.size = k ∧ k ≤ 8 ∧ i = .int .i64 (7 - (k : Int)) ∧ b = .string S ∧ Hid (S.data.toList = (Ev.big x 8).take k) ∧ Below w.heap.size w wr) (fun _ i _ => (intOf i + 1).toNat)
  case atStart => exact ⟨0, ⟨#[]⟩, rfl, by omega, rfl, rfl, Lib.hid rfl, Below.refl _ _⟩
  case round =>
    obtain ⟨k, S, hsz, hk, rfl, rfl, HS0, hb⟩ := hrel
    have hs8 : S.size ≤ 8 := by omega
    have HSZ := Lib.hid hsz
    clear hsz
    have hz := hb.size
    by_cases hlt : k < 8
    · have HS := Lib.hid (Ev.big_snoc x 8 k hlt)
      have hi : (0 : Int) ≤ 7 - (k : Int) := by omega
      have hi2 : 7 - (k : Int) ≤ 7 := by omega
      have hrun := run_one _ _ (Ev.byteV_shr x (7 - k))
      go_wp2_with fail
      go_roundw
      case rel => exact ⟨k + 1, S ++ ⟨#[UInt8.ofNat (x / 256 ^ (7 - k))]⟩, by rw [ByteArray.size_append, HSZ.out]; rfl, by omega, by congr 1; omega, rfl, Lib.hid (by rw [HS.out, ← HS0.out]; simp), hb.trans ((Below.refl _ _).alloc hz _)⟩
      case measure => simp [intOf]; omega
    · obtain rfl : k = 8 := by omega
      go_wp2_with fail
      go_ret
      exact ⟨ret_str (Ev.str_eq (by rw [HS0.out, List.take_of_length_le (by rw [Ev.big_len]; omega)])), hb⟩
end Go.Proofs.YtjhejnhjpjmnmaaDoor
