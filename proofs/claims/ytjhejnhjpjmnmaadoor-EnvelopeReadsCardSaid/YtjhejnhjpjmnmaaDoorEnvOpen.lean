/- A letter that comes in by value; four bytes that come in by value. -/
import Derived.Test.YtjhejnhjpjmnmaaDoorEnvMath
import Derived.Lib.SmallJoins
import Derived.OpenShut
set_option linter.unusedVariables false
namespace Go.Proofs.YtjhejnhjpjmnmaaDoor
open Go.Joins Go.ChangeShapes Go.WideShapes Go.RowKit Go.Deep
section
variable {H : Type} {enc : TypeId × Value → H} {P : Program} {w : World} {base : Nat} {spare : Nat → Bool} {held : Bool}
theorem open_agg10 {r : Reach} {b0 : Nat} {t : TypeId} {f0 f1 f2 f3 f4 f5 f6 f7 f8 f9 : Field} {v : Value} {d : DataW H} {p : List MemPlace} (hs : P.underlying t = some (.struct #[f0, f1, f2, f3, f4, f5, f6, f7, f8, f9])) (hone : oneCellFields P #[f0, f1, f2, f3, f4, f5, f6, f7, f8, f9] = true) (hC : P.cellsOf t = 10)
    (hv : Value.okWide P w r b0 t v) (h : DataW.Trod enc P w base spare held t v d p) :
    ∃ (v0 v1 v2 v3 v4 v5 v6 v7 v8 v9 : Value) (y0 y1 y2 y3 y4 y5 y6 y7 y8 y9 : DataW H × List MemPlace) (n : Nat), v = .agg #[v0, v1, v2, v3, v4, v5, v6, v7, v8, v9] ∧
      DataW.trod enc P w base spare held n f0.type [v0] = some y0 ∧ DataW.trod enc P w base spare held n f1.type [v1] = some y1 ∧ DataW.trod enc P w base spare held n f2.type [v2] = some y2 ∧ DataW.trod enc P w base spare held n f3.type [v3] = some y3 ∧ DataW.trod enc P w base spare held n f4.type [v4] = some y4 ∧ DataW.trod enc P w base spare held n f5.type [v5] = some y5 ∧ DataW.trod enc P w base spare held n f6.type [v6] = some y6 ∧ DataW.trod enc P w base spare held n f7.type [v7] = some y7 ∧ DataW.trod enc P w base spare held n f8.type [v8] = some y8 ∧ DataW.trod enc P w base spare held n f9.type [v9] = some y9 := by
  obtain ⟨cs, rfl, hsz⟩ := okWide_struct hs hv
  obtain ⟨l⟩ := cs
  match l, hsz.trans hC with
  | [c0, c1, c2, c3, c4, c5, c6, c7, c8, c9], _ =>
    obtain ⟨fuel, hf⟩ := h
    obtain ⟨xs, n, _, hx, _, hlen, hg⟩ := DataW.trod_struct hs hf
    obtain ⟨o0, k0⟩ := hone_of hone 0 f0 rfl
    obtain ⟨o1, k1⟩ := hone_of hone 1 f1 rfl
    obtain ⟨o2, k2⟩ := hone_of hone 2 f2 rfl
    obtain ⟨o3, k3⟩ := hone_of hone 3 f3 rfl
    obtain ⟨o4, k4⟩ := hone_of hone 4 f4 rfl
    obtain ⟨o5, k5⟩ := hone_of hone 5 f5 rfl
    obtain ⟨o6, k6⟩ := hone_of hone 6 f6 rfl
    obtain ⟨o7, k7⟩ := hone_of hone 7 f7 rfl
    obtain ⟨o8, k8⟩ := hone_of hone 8 f8 rfl
    obtain ⟨o9, k9⟩ := hone_of hone 9 f9 rfl
    match xs, hlen with
    | [y0, y1, y2, y3, y4, y5, y6, y7, y8, y9], _ =>
      exact ⟨c0, c1, c2, c3, c4, c5, c6, c7, c8, c9, y0, y1, y2, y3, y4, y5, y6, y7, y8, y9, n, rfl, by simpa [Value.cells, o0, k0] using hg 0 f0 rfl, by simpa [Value.cells, o1, k1] using hg 1 f1 rfl, by simpa [Value.cells, o2, k2] using hg 2 f2 rfl, by simpa [Value.cells, o3, k3] using hg 3 f3 rfl, by simpa [Value.cells, o4, k4] using hg 4 f4 rfl, by simpa [Value.cells, o5, k5] using hg 5 f5 rfl, by simpa [Value.cells, o6, k6] using hg 6 f6 rfl, by simpa [Value.cells, o7, k7] using hg 7 f7 rfl, by simpa [Value.cells, o8, k8] using hg 8 f8 rfl, by simpa [Value.cells, o9, k9] using hg 9 f9 rfl⟩
end
theorem int_nat {k : IntKind} {n : Int} (h0 : k.min = 0) (h : (Lit.int k n).wf = true) : ∃ m : Nat, n = m := by
  have : k.min ≤ n := by simp [Lit.wf] at h; omega
  exact ⟨n.toNat, by omega⟩
theorem open_letter {H : Type} {enc : TypeId × Value → H} {w : World} {base b0 : Nat} {spare : Nat → Bool} {held : Bool} {r : Reach} {v : Value} {d : DataW H} {p : List MemPlace} (hv : Value.okWide Tryd.prog w r b0 24 v)
    (h : DataW.Trod enc Tryd.prog w base spare held 24 v d p) : ∃ l : Ev.Letter, v = l.val ∧ l.ok ∧ (Lit.int .i64 l.from_).wf = true ∧ (Lit.int .i64 l.to_).wf = true ∧ (Lit.int .i64 l.code).wf = true ∧ l.key.size ≤ maxLen ∧ l.svc.size ≤ maxLen ∧ l.mth.size ≤ maxLen ∧ l.body.size ≤ maxLen := by
  obtain ⟨v0, v1, v2, v3, v4, v5, v6, v7, v8, v9, y0, y1, y2, y3, y4, y5, y6, y7, y8, y9, n, rfl, t0, t1, t2, t3, t4, t5, t6, t7, t8, t9⟩ := open_agg10 Tryd.underlying24 (by kernel_rfl) (by kernel_rfl) hv h
  obtain ⟨n0, e0, _, w0⟩ := DataW.trod_int Tryd.underlying5 t0
  obtain ⟨n1, e1, _, w1⟩ := DataW.trod_int Tryd.underlying3 t1
  obtain ⟨n2, e2, _, w2⟩ := DataW.trod_int Tryd.underlying3 t2
  obtain ⟨n3, e3, _, w3⟩ := DataW.trod_int Tryd.underlying22 t3
  obtain ⟨n4, e4, _, w4⟩ := DataW.trod_string Tryd.underlying9 t4
  obtain ⟨n5, e5, _, w5⟩ := DataW.trod_int Tryd.underlying22 t5
  obtain ⟨n6, e6, _, w6⟩ := DataW.trod_string Tryd.underlying9 t6
  obtain ⟨n7, e7, _, w7⟩ := DataW.trod_string Tryd.underlying9 t7
  obtain ⟨n8, e8, _, w8⟩ := DataW.trod_int Tryd.underlying3 t8
  obtain ⟨n9, e9, _, w9⟩ := DataW.trod_string Tryd.underlying9 t9
  simp only [List.cons.injEq, and_true] at e0 e1 e2 e3 e4 e5 e6 e7 e8 e9
  subst e0 e1 e2 e3 e4 e5 e6 e7 e8 e9
  obtain ⟨k0, rfl⟩ := int_nat rfl w0
  obtain ⟨k3, rfl⟩ := int_nat rfl w3
  obtain ⟨k5, rfl⟩ := int_nat rfl w5
  have x0 : IntKind.u8.max = 255 := rfl
  have x3 : IntKind.u64.max = 18446744073709551615 := rfl
  have b0 : (k0 : Int) ≤ IntKind.u8.max := by simp [Lit.wf] at w0; omega
  have b3 : (k3 : Int) ≤ IntKind.u64.max := by simp [Lit.wf] at w3; omega
  have b5 : (k5 : Int) ≤ IntKind.u64.max := by simp [Lit.wf] at w5; omega
  refine ⟨⟨k0, n1, n2, k3, n4, k5, n6, n7, n8, n9⟩, rfl, ⟨?_, ?_, ?_⟩, w1, w2, w8, w4, w6, w7, w9⟩
  · show k0 < 256; omega
  · show k3 < 18446744073709551616; omega
  · show k5 < 18446744073709551616; omega
theorem open_four {H : Type} {enc : TypeId × Value → H} {w : World} {base b0 : Nat} {spare : Nat → Bool} {held : Bool} {r : Reach} {v : Value} {d : DataW H} {p : List MemPlace} (hv : Value.okWide Tryd.prog w r b0 36 v)
    (h : DataW.Trod enc Tryd.prog w base spare held 36 v d p) : ∃ x0 x1 x2 x3 : Nat, v = .agg #[.int .u8 x0, .int .u8 x1, .int .u8 x2, .int .u8 x3] ∧ x0 < 256 ∧ x1 < 256 ∧ x2 < 256 ∧ x3 < 256 := by
  have hs := Tryd.underlying36
  simp only [Value.okWide, hs] at hv
  obtain ⟨cs, rfl, hsz, _⟩ := hv
  have hC : Tryd.prog.cellsOf 36 = 4 := by kernel_rfl
  have hC1 : Tryd.prog.cellsOf 5 = 1 := by kernel_rfl
  obtain ⟨c0, c1, c2, c3, rfl⟩ := array4 (hsz.trans hC)
  obtain ⟨fuel, hf⟩ := h
  obtain ⟨xs, m, _, _, _, hl, hg⟩ := DataW.trod_array hs hf
  have one : ∀ i (hi : i < 4) c, ((Value.agg #[c0, c1, c2, c3]).cells.toList.drop (i * 1)).take 1 = [c] → ∃ x : Nat, c = .int .u8 x ∧ x < 256 := fun i hi c hc => by
    have h1 := hg i hi
    rw [hC1, hc, List.getElem?_eq_getElem (by omega)] at h1
    obtain ⟨n, e, _, w0⟩ := DataW.trod_int Tryd.underlying5 h1
    simp only [List.cons.injEq, and_true] at e
    obtain ⟨k, rfl⟩ := int_nat rfl w0
    have x0 : IntKind.u8.max = 255 := rfl
    have b0 : (k : Int) ≤ IntKind.u8.max := by simp [Lit.wf] at w0; omega
    exact ⟨k, e, by omega⟩
  obtain ⟨x0, rfl, h0⟩ := one 0 (by decide) c0 rfl
  obtain ⟨x1, rfl, h1⟩ := one 1 (by decide) c1 rfl
  obtain ⟨x2, rfl, h2⟩ := one 2 (by decide) c2 rfl
  obtain ⟨x3, rfl, h3⟩ := one 3 (by decide) c3 rfl
  exact ⟨x0, x1, x2, x3, rfl, h0, h1, h2, h3⟩
end Go.Proofs.YtjhejnhjpjmnmaaDoor
