/- A token appended to a row of the call's own; the tokens of a text, by turns. -/
import Derived.Test.YtoomlpalkinipaaDoorTokMath2
set_option linter.unusedVariables false
namespace Go.Proofs.YtoomlpalkinipaaDoor
open Go.RowKit
namespace Tk
/-- A token's four cells. -/
def Tok.cells (t : Tok) : List Value := [.int .u8 t.kind, .string t.text, .int .i64 t.num, .int .i64 t.at_]
/-- Tokens' cells. -/
def flat (l : List Tok) : List Value := l.flatMap Tok.cells
theorem flat_len (l : List Tok) : (flat l).length = l.length * 4 := by
  induction l with
  | nil => rfl
  | cons t l ih => simp only [flat, List.flatMap_cons, List.length_append] at ih ⊢; rw [ih]; simp [Tok.cells]; omega
theorem flat_snoc (l : List Tok) (t : Tok) : flat (l ++ [t]) = flat l ++ t.cells := by simp [flat]
/-- Turns: at a place (a gap's end), with the tokens so far: tokens, place of the fault, fault. -/
def scan (d : Nat) (s : ByteArray) : Nat → Nat → List Tok → List Tok × Nat × Nat
  | 0, _, acc => (acc, 0, 0)
  | f + 1, k, acc => if k < s.size then (if (oneAt d s k).2 ≠ 0 then ([], k, (oneAt d s k).2) else scan d s f (gapEnd false s (k + (oneAt d s k).1.text.size)) (acc ++ [(oneAt d s k).1])) else (acc, 0, 0)
/-- A text's tokens, or its first fault and where. -/
def all (s : ByteArray) : List Tok × Nat × Nat := if 65536 < s.size then ([], 0, 3) else scan 3 s (s.size + 1) (gapEnd false s 0) []
theorem oneAt_ok {d : Nat} {s : ByteArray} {k : Nat} (h : k < s.size) (h0 : (oneAt d s k).2 = 0) : 1 ≤ (oneAt d s k).1.text.size ∧ k + (oneAt d s k).1.text.size ≤ s.size := by
  have a1 := runEnd_ge isInner s (k + 1)
  have a2 := runEnd_le (p := isInner) (s := s) (k := k + 1) (by omega)
  have b1 := runEnd_ge isDigit s (k + 1)
  have b2 := runEnd_le (p := isDigit) (s := s) (k := k + 1) (by omega)
  have hex : ∀ e, (s.extract k e).size = min e s.size - k := fun e => by simp
  unfold oneAt at h0 ⊢
  split
  · simp only [hex]; omega
  · split
    · dsimp only
      split
      · simp only [hex]; omega
      · split
        · simp only [hex]; omega
        · simp only [hex]; omega
    · split
      · simp only [hex]; omega
      · split
        · rename_i hh
          have e : arrow.size = 2 := rfl
          simp only [e]; omega
        · rename_i n1 n2 n3 n4
          rw [if_neg n1, if_neg n2, if_neg n3, if_neg n4] at h0
          simp at h0
end Tk
/-- A row of the call's own, behind calls that leave what lay there. -/
theorem Tk.row_below {w w1 : World} {base : Nat} {e : TypeId} {size : Nat} {v : Value} {n : Nat} {xs : List Value} (h : w.ownsRow base e size v n xs) (hb : Below w.heap.size w w1) : w1.ownsRow base e size v n xs := by
  refine ⟨h.1, ?_⟩
  rcases h.2 with hn | ⟨g, cap, cur, rfl, hbs, hgg, rest⟩
  · exact .inl hn
  · exact .inr ⟨g, cap, cur, rfl, hbs, by rw [hb.block g (Array.getElem?_eq_some_iff.1 hgg).1]; exact hgg, rest⟩
theorem cells_four_new (w : World) (c0 c1 c2 c3 : Value) (t : TypeId) : ∀ j u, [c0, c1, c2, c3][j]? = some u → (w.alloc (.cells #[c0, c1, c2, c3] t)).cell? ((⟨w.heap.size, 0, none⟩ : Addr).add j) = some u := by
  intro j u h
  have e : ((⟨w.heap.size, 0, none⟩ : Addr).add j) = ⟨w.heap.size, j, none⟩ := by simp [Addr.add]; omega
  rw [e, World.cell?_alloc_mark]
  simpa using h
/-- A token (four cells) appended to a row of the call's own. -/
theorem wpList_append_four {P : Program} {ops : Array Oper} {rest : List Oper} {o : Oper} {a : Act} {Q : Exit → Act → World → Prop} {w0 : World} (hgd : o.guard = none) (s y : Operand) (t : TypeId)
    (ho : o.op = .call { callee := .builtin .append, args := #[s, y], argTypes := #[t, t] })
    (base : Nat) (e : TypeId) (z : Value) (bytes : Nat) (ht : P.underlying t = some (.slice e)) (hi : (P.info? e).map (fun i => (i.zero, i.size, i.bytes)) = some (some z, 4, bytes)) (hzs : z.cells.size = 4)
    (v : Value) (n : Nat) (xs : List Value) (hs : a.eval s = v) (hown : w0.ownsRow base e 4 v n xs)
    (c0 c1 c2 c3 : Value) (g : Nat) (hx : a.eval y = .slice (some ⟨g, 0, none⟩) 1 1) (hg0 : g = w0.heap.size) (h1 : ∀ u ∈ [c0, c1, c2, c3], u.oneCell' = true)
    (h63 : n + 1 ≤ maxLen) (hbytes : (n + 1) * bytes ≤ 140737488355328) (hbase : base ≤ w0.heap.size)
    (h : ∀ v' w', w'.ownsRow base e 4 v' (n + 1) (xs ++ [c0, c1, c2, c3]) → Below base w0 w' → (w0.alloc (.cells #[c0, c1, c2, c3] e)).grownBy w' v.ownBlock → wpList P ops Q rest (a.put o.dst v') w') :
    wpList P ops Q (o :: rest) a (w0.alloc (.cells #[c0, c1, c2, c3] e)) := by
  subst hg0
  obtain ⟨i, hi0, hz0, hz1, hz2⟩ := info_parts hi
  refine wpList_append_own _ hgd s y t ho base e i z 4 bytes ht hi0 hz0 hz1 hz2 hzs (by decide) v n xs hs (hown.alloc _) ⟨w0.heap.size, 0, none⟩ 1 1 [c0, c1, c2, c3] hx rfl (cells_four_new _ _ _ _ _ _) h1 h63 hbytes (by simp; omega) ?_
  intro v' w' hown' hg _
  exact h v' w' hown' (((Below.refl base w0).alloc hbase _).grown hg (by simp; omega) (fun k hk => (hown.lt k hk).1)) hg
theorem info_tok : (Tryd.prog.info? 37).map (fun i => (i.zero, i.size, i.bytes)) = some (some (.agg #[.int .u8 0, .string ByteArray.empty, .int .i64 0, .int .i64 0]), 4, 40) := by kernel_rfl
end Go.Proofs.YtoomlpalkinipaaDoor
