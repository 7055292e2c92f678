/- envelope.putVar, text, putBig, putLittle: bytes put behind a row of the call's own. -/
import Derived.Test.YtjhejnhjpjmnmaaDoorEnvMath
import Derived.Lib.AppendStr
set_option linter.unusedVariables false
namespace Go.Proofs.YtjhejnhjpjmnmaaDoor
open Go.RowKit
namespace Ev
theorem or128' : ∀ z, z < 256 → z ||| 128 = z % 128 + 128 := by decide +kernel
theorem or128 (y : Nat) : bits .or .u8 ((y : Int) % 256) 128 = ((y % 128 + 128 : Nat) : Int) := by
  have h := u8_or_nat (y % 256) 128 (by omega) (by omega)
  rw [or128' _ (by omega)] at h
  have e : y % 256 % 128 = y % 128 := by omega
  rw [e] at h
  exact h
theorem varF_step {f y : Nat} (h : 128 ≤ y) : varF (f + 1) y = UInt8.ofNat (y % 128 + 128) :: varF f (y / 128) := by
  rw [varF, if_neg (by omega)]
theorem varF_last {f y : Nat} (h : y < 128) : varF f y = [UInt8.ofNat y] := by
  cases f with
  | zero => rfl
  | succ f => rw [varF, if_pos h]
theorem byteV_or (y : Nat) : Sm.byteV (UInt8.ofNat (y % 128 + 128)) = .int .u8 (bits .or .u8 ((y : Int) % 256) 128) := by
  unfold Sm.byteV
  rw [Sm.ofNat_toNat, or128, Nat.mod_eq_of_lt (by omega)]
theorem byteV_low {y : Nat} (h : y < 128) : Sm.byteV (UInt8.ofNat y) = .int .u8 (y : Int) := by
  unfold Sm.byteV
  rw [Sm.ofNat_toNat, Nat.mod_eq_of_lt (by omega)]
/-- A row of bytes of the call's own. -/
def Bt (w : World) (B : Nat) (v : Value) (xs : List UInt8) : Prop := w.ownsRow B 5 1 v xs.length (xs.map Sm.byteV)
theorem Bt.push {w : World} {B n : Nat} {v x : Value} {xs : List UInt8} {c : UInt8} (h : w.ownsRow B 5 1 v (n + 1) (xs.map Sm.byteV ++ [x])) (hn : n = xs.length) (hx : Sm.byteV c = x) : Bt w B v (xs ++ [c]) := by
  unfold Bt
  subst hn hx
  rw [List.map_append, List.map_singleton, List.length_append, List.length_singleton]
  exact h
theorem Bt.pushS {w : World} {B : Nat} {v : Value} {xs : List UInt8} {s : ByteArray} (h : w.ownsRow B 5 1 v (xs.length + s.size) (xs.map Sm.byteV ++ Lib.strCells s)) : Bt w B v (xs ++ s.data.toList) := by
  unfold Bt
  rw [List.map_append, List.length_append]
  have e : s.data.toList.length = s.size := by simp
  rw [e]
  exact h
theorem Bt.own {w : World} {B : Nat} {v : Value} {xs : List UInt8} (h : Bt w B v xs) : w.ownsRow B 5 1 v xs.length (xs.map Sm.byteV) := h
theorem Bt.nil (w : World) (B : Nat) : Bt w B (.slice none 0 0) [] := World.ownsRow_nil _ _ _ _
end Ev
set_option maxRecDepth 100000 in
set_option maxHeartbeats 1000000 in
theorem putVar_any (B : Nat) (v : Value) (xs : List UInt8) (x : Nat) (hx : x < 18446744073709551616) (hn : xs.length ≤ 1000000000) (w : World) (hown : Ev.Bt w B v xs) (hB : B ≤ w.heap.size) :
    Calls Tryd.prog 21 #[v, .int .u64 x] w fun e w' => ∃ v', e = .returned v' ∧ Ev.Bt w' B v' (xs ++ Ev.var x) ∧ Below B w w' := by
  have HX : Hid (x < 2 * 128 ^ 9) := Lib.hid (by simpa using hx)
  have HO := Lib.hid hown
  clear hx hown
  go_enter Tryd.func21, Tryd.ntmps21
  go_wp2
  go_loopw [0, 1] (fun b z wr => ∃ (f y : Nat) (p : List UInt8), f ≤ 9 ∧ p.length + f = 9 ∧ z = .int .u64 y ∧ y < 18446744073709551616 ∧ Hid (y < 2 * 128 ^ f) ∧ Hid (p ++ Ev.varF f y = Ev.var x) ∧ Ev.Bt wr B b (xs ++ p) ∧ Below B w wr) (fun _ z _ => (intOf z).toNat)
  case atStart => exact ⟨9, x, [], by omega, rfl, rfl, by have := HX.out; simpa using this, HX, Lib.hid rfl, by rw [List.append_nil]; exact HO.out, Below.refl _ _⟩
  case round =>
    obtain ⟨f, y, p, hf, hpf, rfl, hy64, HY, HP, hown, hb⟩ := hrel
    have hz := hb.size
    have hlen : (xs ++ p).length ≤ 1000000010 := by rw [List.length_append]; omega
    have HPF := Lib.hid hpf
    clear hpf
    by_cases hlt : 128 ≤ y
    · obtain ⟨g, rfl⟩ : ∃ g, f = g + 1 := by
        cases f with
        | zero => have := HY.out; omega
        | succ g => exact ⟨g, rfl⟩
      have HS := Lib.hid (Ev.varF_step (f := g) hlt)
      have HB := Lib.hid (Ev.byteV_or y)
      have hi : (128 : Int) ≤ (y : Int) := by omega
      go_wp2_with (at_builtin; refine wpList_append_one rfl _ _ _ rfl B 5 _ _ Tryd.underlying37 info_u8 rfl _ (xs ++ p).length _ rfl hown.own _ rfl rfl (by simp only [maxLen]; omega) (by omega) (by omega) ?_; intro v' w1 hown1 hb1 _)
      go_roundw
      case rel => exact ⟨g, y / 128, p ++ [UInt8.ofNat (y % 128 + 128)], by omega, by have := HPF.out; simp; omega, by go_num, by omega, Lib.hid (by have h := HY.out; rw [Nat.pow_succ] at h; omega), Lib.hid (by rw [← HP.out, HS.out]; simp), by rw [← List.append_assoc]; exact Ev.Bt.push hown1 rfl HB.out, hb.trans hb1⟩
      case measure => simp [intOf]; omega
    · have HL := Lib.hid (Ev.varF_last (f := f) (y := y) (by omega))
      have HB := Lib.hid (Ev.byteV_low (y := y) (by omega))
      have hi : ¬ (128 : Int) ≤ (y : Int) := by omega
      go_wp2_with (at_builtin; refine wpList_append_one rfl _ _ _ rfl B 5 _ _ Tryd.underlying37 info_u8 rfl _ (xs ++ p).length _ rfl hown.own _ rfl rfl (by simp only [maxLen]; omega) (by omega) (by omega) ?_; intro v' w1 hown1 hb1 _)
      have hfin := Ev.Bt.push hown1 rfl HB.out
      rw [← HL.out, List.append_assoc, HP.out] at hfin
      have HF := Lib.hid hfin
      clear hfin
      go_ret
      exact ⟨_, rfl, HF.out, hb.trans hb1⟩
set_option maxRecDepth 100000 in
set_option maxHeartbeats 1000000 in
theorem text_any (B : Nat) (v : Value) (xs : List UInt8) (s : ByteArray) (hs : s.size ≤ 1000000000) (hn : xs.length ≤ 1000000000) (w : World) (hown : Ev.Bt w B v xs) (hB : B ≤ w.heap.size) :
    Calls Tryd.prog 20 #[v, .string s] w fun e w' => ∃ v', e = .returned v' ∧ Ev.Bt w' B v' (xs ++ Ev.txt s) ∧ Below B w w' := by
  obtain ⟨i0, hi0, hz0, hz1, hz2⟩ := info_parts info_u8
  have hvl := (Ev.var_len s.size).2
  go_enter Tryd.func20, Tryd.ntmps20
  go_wp2_with fail
  refine (putVar_any B v xs s.size (by omega) hn _ hown hB).mono ?_
  rintro e w1 ⟨v1, rfl, h1, hb1⟩
  have hbz := hb1.size
  have hl : (xs ++ Ev.var s.size).length ≤ 1000000010 := by rw [List.length_append]; omega
  have HY : Hid (xs ++ Ev.txt s = (xs ++ Ev.var s.size) ++ s.data.toList) := Lib.hid (by unfold Ev.txt; rw [List.append_assoc])
  generalize xs ++ Ev.var s.size = ys at *
  go_wp2_with (at_builtin; refine Lib.wpList_append_own_string _ rfl _ _ 37 9 rfl B 5 i0 Tryd.underlying37 Tryd.underlying9 hi0 hz0 hz1 hz2 _ _ _ rfl h1.own s rfl ?c3 ?c4 ?c5 ?_)
  case c3 => unfold maxLen; omega
  case c4 => omega
  case c5 => omega
  intro v2 w2 h2 hg _
  have hfin : Ev.Bt w2 B v2 (xs ++ Ev.txt s) := by rw [HY.out]; exact Ev.Bt.pushS h2
  have HF := Lib.hid hfin
  clear hfin h2
  go_wp2_with fail
  go_ret
  exact ⟨_, rfl, HF.out, hb1.trans ((Below.refl _ _).grown hg (by omega) (fun k hk => (h1.own.lt k hk).1))⟩
end Go.Proofs.YtjhejnhjpjmnmaaDoor
