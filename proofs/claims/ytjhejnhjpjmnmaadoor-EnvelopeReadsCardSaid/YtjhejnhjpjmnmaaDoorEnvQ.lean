/- The reference's Pack: the parts' texts and lengths. -/
import Derived.Test.YtjhejnhjpjmnmaaDoorEnvP
set_option linter.unusedVariables false
namespace Go.Proofs.YtjhejnhjpjmnmaaDoor
open Go.RowKit
attribute [local go_sem ↓] Go.wp_at_zero Go.wp_at_succ
namespace Ev
def varS (x : Nat) : ByteArray := ⟨(var x).toArray⟩
def txtS (s : ByteArray) : ByteArray := ⟨(txt s).toArray⟩
def bigS (x : Nat) : ByteArray := ⟨(big x 8).toArray⟩
def threeS (a b c : Nat) : ByteArray := ⟨#[UInt8.ofNat a, UInt8.ofNat b, UInt8.ofNat c]⟩
end Ev
theorem number_s (x : Nat) (hx : x < 18446744073709551616) (w : World) :
    Calls Tryd.prog 26 #[.int .u64 x] w fun e w' => e = .returned (.string (Ev.varS x)) ∧ Below w.heap.size w w' := number_any x hx w
theorem rtext_s (s : ByteArray) (hs : s.size ≤ 1000000000) (w : World) :
    Calls Tryd.prog 27 #[.string s] w fun e w' => e = .returned (.string (Ev.txtS s)) ∧ Below w.heap.size w w' := rtext_any s hs w
theorem high_s (x : Nat) (hx : x < 18446744073709551616) (w : World) :
    Calls Tryd.prog 28 #[.int .u64 x, .int .i64 8] w fun e w' => e = .returned (.string (Ev.bigS x)) ∧ Below w.heap.size w w' := high_any x hx w
theorem run_three (a b c : Nat) (ha : a < 256) (hb : b < 256) (hc : c < 256) (W : World) :
    Sem.run Tryd.prog (convert 37 9 (.slice (some ⟨W.heap.size, 0, none⟩) 3 3)) (W.alloc (.cells #[.int .u8 a, .int .u8 b, .int .u8 c] 5)) = .ok (.string (Ev.threeS a b c)) (W.alloc (.cells #[.int .u8 a, .int .u8 b, .int .u8 c] 5)) := by
  obtain ⟨g, cap, e, h⟩ := (Ev.Bt.three (w := W) ha hb hc).run (by simp)
  injection e with e1 e2 e3
  injection e1 with e1
  injection e1 with e1
  subst e1 e3
  exact h
theorem run_three_drew (a b c : Nat) (ha : a < 256) (hb : b < 256) (hc : c < 256) (W : World) :
    Sem.run Tryd.prog (convert 37 9 (.slice (some ⟨W.heap.size, 0, none⟩) 3 3)) (W.alloc (.cells #[.int .u8 a, .int .u8 b, .int .u8 c] 5)).drew = .ok (.string (Ev.threeS a b c)) (W.alloc (.cells #[.int .u8 a, .int .u8 b, .int .u8 c] 5)).drew := by
  have h0 : Ev.Bt (W.alloc (.cells #[.int .u8 a, .int .u8 b, .int .u8 c] 5)).drew W.heap.size _ _ := Ev.Bt.three (w := W) ha hb hc
  obtain ⟨g, cap, e, h⟩ := h0.run (by simp)
  injection e with e1 e2 e3
  injection e1 with e1
  injection e1 with e1
  subst e1 e3
  exact h
theorem Ev.size_var (x : Nat) : (Ev.varS x).size ≤ 10 := by
  show (Ev.var x).toArray.size ≤ 10
  rw [List.size_toArray]
  exact (Ev.var_len x).2
theorem Ev.size_txt (s : ByteArray) : (Ev.txtS s).size ≤ s.size + 10 := by
  show (Ev.txt s).toArray.size ≤ _
  rw [List.size_toArray]
  have h1 := (Ev.var_len s.size).2
  have h3 : s.data.toList.length = s.size := by simp
  unfold Ev.txt
  rw [List.length_append]
  omega
theorem Ev.size_big (x : Nat) : (Ev.bigS x).size ≤ 8 := by
  show (Ev.big x 8).toArray.size ≤ 8
  rw [List.size_toArray, Ev.big_len]
  omega
theorem below_of_drew {B : Nat} {a w : World} (h : Below B a w.drew) : Below B a w := ⟨h.os, h.tape, h.output, h.size, h.block⟩
theorem below_drew1 (w : World) : Below w.heap.size w w.drew := ⟨rfl, rfl, rfl, Nat.le_refl _, fun _ _ => rfl⟩
end Go.Proofs.YtjhejnhjpjmnmaaDoor
