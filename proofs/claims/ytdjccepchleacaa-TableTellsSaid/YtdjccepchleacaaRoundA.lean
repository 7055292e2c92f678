/- Within a round (or under a fence): an element of some cells appended to a row of the call's own. No condition. -/
import Derived.Test.YtdjccepchleacaaRoundQ
import Derived.Maps.OwnIn
set_option linter.unusedVariables false
namespace Go.Proofs.Ytdjccepchleacaa
open Go.RowKit Go.Shelf
theorem wpListIn_append_cells {F : Fence} {fn : Nat} {P : Program} {ops : Array Oper} {rest : List Oper} {o : Oper} {a : Act} {Q : Exit → Act → World → Prop} {w0 : World} (hgd : o.guard = none) (s y : Operand) (t : TypeId)
    (ho : o.op = .call { callee := .builtin .append, args := #[s, y], argTypes := #[t, t] })
    (base : Nat) (e : TypeId) (z : Value) (size bytes : Nat) (ht : P.underlying t = some (.slice e)) (hi : (P.info? e).map (fun i => (i.zero, i.size, i.bytes)) = some (some z, size, bytes)) (hzs : z.cells.size = size) (hpos : 0 < size)
    (v : Value) (n : Nat) (xs : List Value) (hs : a.eval s = v) (hown : w0.ownsRow base e size v n xs)
    (cs : List Value) (hcs : cs.length = size) (g : Nat) (hx : a.eval y = .slice (some ⟨g, 0, none⟩) 1 1) (hg0 : g = w0.heap.size) (h1 : ∀ u ∈ cs, u.oneCell' = true)
    (h63 : n + 1 ≤ maxLen) (hbytes : (n + 1) * bytes ≤ 140737488355328) (hbase : base ≤ w0.heap.size)
    (h : ∀ v' w', w'.ownsRow base e size v' (n + 1) (xs ++ cs) → Below base w0 w' → (w0.alloc (.cells cs.toArray e)).grownBy w' v.ownBlock → (v'.ownBlock = v.ownBlock ∨ v'.ownBlock = some (w0.heap.size + 1)) → wpListIn F fn P ops Q rest (a.put o.dst v') w') :
    wpListIn F fn P ops Q (o :: rest) a (w0.alloc (.cells cs.toArray e)) := by
  subst hg0
  obtain ⟨i, hi0, hz0, hz1, hz2⟩ := info_parts hi
  refine wpListIn_append_own_at _ hgd s y t ho base e i z size bytes ht hi0 hz0 hz1 hz2 hzs hpos v n xs hs (hown.alloc _) ⟨w0.heap.size, 0, none⟩ 1 1 cs hx (by rw [hcs]; omega) (fun j u hu => ?_) h1 h63 hbytes (by simp; omega) ?_
  · have e' : ((⟨w0.heap.size, 0, none⟩ : Addr).add j) = ⟨w0.heap.size, j, none⟩ := by simp [Addr.add]; omega
    rw [e', World.cell?_alloc_mark]
    simpa using hu
  intro v' w' hown' hg _ hv
  simp only [World.size_alloc] at hv
  exact h v' w' hown' (((Below.refl base w0).alloc hbase _).grown hg (by simp; omega) (fun k hk => (hown.lt k hk).1)) hg hv
end Go.Proofs.Ytdjccepchleacaa
