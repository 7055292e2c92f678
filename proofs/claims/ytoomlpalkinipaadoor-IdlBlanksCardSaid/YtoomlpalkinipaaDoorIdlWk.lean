/- The statements of chapter 12: wakes. -/
import Derived.Test.YtoomlpalkinipaaDoorIdlO
set_option linter.unusedVariables false
set_option linter.unusedSimpArgs false
namespace Go.Proofs.YtoomlpalkinipaaDoor
open Go.RowKit
namespace Id
def few : ByteArray := ⟨#[109, 111, 100, 117, 108, 101, 32, 109, 59, 32, 114, 101, 99, 111, 114, 100, 32, 82, 32, 123, 32, 97, 58, 32, 108, 105, 115, 116, 32, 111, 112, 116, 32, 105, 110, 116, 59, 32, 125, 32, 115, 101, 114, 118, 105, 99, 101, 32, 83, 32, 123, 32, 116, 97, 107, 101, 32, 116, 40, 82, 41, 32, 45, 62, 32, 105, 110, 116, 32, 117, 110, 100, 111, 32, 117, 59, 32, 125, 32, 115, 97, 103, 97, 32, 103, 40, 82, 41, 32, 123, 32, 100, 111, 32, 83, 46, 116, 32, 97, 116, 32, 50, 59, 32, 125]⟩
def fewS : Sch := ⟨⟨#[109]⟩, [⟨⟨#[82]⟩, false, [⟨⟨#[97]⟩, [⟨5, ⟨#[]⟩⟩, ⟨6, ⟨#[]⟩⟩, ⟨3, ⟨#[]⟩⟩]⟩]⟩], [⟨⟨#[83]⟩, [⟨⟨#[116]⟩, ⟨#[82]⟩, 3, ⟨#[116, 97, 107, 101]⟩, ⟨#[117]⟩⟩]⟩], [⟨⟨#[103]⟩, ⟨#[82]⟩, [⟨⟨#[83]⟩, ⟨#[116]⟩, 2⟩]⟩]⟩
theorem few_parse : parse few = (fewS, 0, 0) := by kernel_rfl
end Id
set_option maxRecDepth 100000 in
set_option maxHeartbeats 8000000 in
theorem wakes12_any (w : World) (hk : Tk.KW w) : Calls Tryd.prog 11 #[] w fun e w' => e = .returned (.bool true) ∧ Below w.heap.size w w' := by
  go_enter Tryd.func11, Tryd.ntmps11
  go_wp2_with fail
  refine (pparse_any Id.few (by decide) _ hk).mono ?_
  rintro e w1 ⟨v, rfl, hb, hsv⟩
  rw [Id.few_parse] at hsv ⊢
  obtain ⟨A1, n1, c1, A2, n2, c2, A3, n3, c3, rfl, r1, r2, r3⟩ := hsv
  have h1 : n1 = 1 := by obtain ⟨_, _, e1, _⟩ := ERow.slice r1; injection e1 with _ e1 _
  have h2 : n2 = 1 := by obtain ⟨_, _, e1, _⟩ := ERow.slice r2; injection e1 with _ e1 _
  have h3 : n3 = 1 := by obtain ⟨_, _, e1, _⟩ := ERow.slice r3; injection e1 with _ e1 _
  subst h1 h2 h3
  obtain ⟨g1, o1, cs1, rfl, _, ⟨u1, f1, q1⟩, k1⟩ := ERow.get r1 (i := 0) (by decide) (by decide)
  obtain ⟨g3, o3, cs3, rfl, _, ⟨u3, f3, q3⟩, k3⟩ := ERow.get r3 (i := 0) (by decide) (by decide)
  obtain ⟨A4, c4, e4, _⟩ := ERow.slice q1
  obtain ⟨A5, c5, e5, _⟩ := ERow.slice q3
  replace e4 : u1 = .slice A4 1 c4 := e4
  replace e5 : u3 = .slice A5 1 c5 := e5
  subst e4 e5 f1 f3
  obtain ⟨g4, o4, cs4, rfl, _, ⟨u4, f4, q4⟩, k4⟩ := ERow.get q1 (i := 0) (by decide) (by decide)
  obtain ⟨g5, o5, cs5, rfl, _, f5, k5⟩ := ERow.get q3 (i := 0) (by decide) (by decide)
  obtain ⟨A6, c6, e6, _⟩ := ERow.slice q4
  replace e6 : u4 = .slice A6 3 c6 := e6
  subst e6 f4
  replace f5 : cs5 = [.string ⟨#[83]⟩, .string ⟨#[116]⟩, .int .i64 2] := f5
  subst f5
  have d1 := k1 2 _ rfl
  have d3 := k3 2 _ rfl
  have d4 := k4 1 _ rfl
  have d5 := k5 2 _ rfl
  simp only [Nat.zero_mul, Nat.add_zero] at d1 d3 d4 d5
  have hx1 : g1 < w1.heap.size := World.block_lt_of_cell? w1 _ d1
  have hx3 : g3 < w1.heap.size := World.block_lt_of_cell? w1 _ d3
  have hx4 : g4 < w1.heap.size := World.block_lt_of_cell? w1 _ d4
  have hx5 : g5 < w1.heap.size := World.block_lt_of_cell? w1 _ d5
  have hy1 : ¬ g1 = w1.heap.size := by omega
  have hy3 : ¬ g3 = w1.heap.size := by omega
  have hy4 : ¬ g4 = w1.heap.size := by omega
  have hy5 : ¬ g5 = w1.heap.size := by omega
  have HB := Lib.hid hb
  have hnm : Id.fewS.name = ⟨#[109]⟩ := rfl
  rw [hnm]
  clear hb hnm k1 k3 k4 k5 q1 q3 q4 r1 r2 r3
  go_wp2_with fail
  go_ret
  exact ⟨by rfl, HB.out.alloc HB.out.size _⟩
end Go.Proofs.YtoomlpalkinipaaDoor
