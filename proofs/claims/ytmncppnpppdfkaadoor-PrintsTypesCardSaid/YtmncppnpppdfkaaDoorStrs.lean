/- Rows of strings; a whole row put behind a row of the call's own. No condition. -/
import Derived.Test.YtmncppnpppdfkaaDoorK0
set_option linter.unusedVariables false
set_option linter.unusedSimpArgs false
namespace Go.Proofs.YtmncppnpppdfkaaDoor
open Go.RowKit
/-- A row of strings. -/
def StrE (w : World) (cs : List Value) (x : ByteArray) : Prop := cs = [.string x]
def StrsR (w : World) (B : Option Nat) (v : Value) (l : List ByteArray) : Prop := ERow w B 9 1 StrE v l
theorem info_strs : (Tryd.prog.info? 9).map (fun i => (i.zero, i.size, i.bytes)) = some (some (.string ByteArray.empty), 1, 16) := by kernel_rfl
/-- A whole row put behind a row of the call's own. -/
theorem wpList_append_rowsS {P : Program} {ops : Array Oper} {rest : List Oper} {o : Oper} {a : Act} {Q : Exit → Act → World → Prop} {w : World} (hgd : o.guard = none) (s y : Operand) (t : TypeId)
    (ho : o.op = .call { callee := .builtin .append, args := #[s, y], argTypes := #[t, t] })
    (base : Nat) (e : TypeId) (z : Value) (size bytes : Nat) (ht : P.underlying t = some (.slice e)) (hi : (P.info? e).map (fun i => (i.zero, i.size, i.bytes)) = some (some z, size, bytes)) (hzs : z.cells.size = size) (hpos : 0 < size)
    {α : Type} (E : World → List Value → α → Prop) (v : Value) (l : List α) (hs : a.eval s = v) (hown : ERow w (some base) e size E v l)
    (A : Option Addr) (m c : Nat) (l2 : List α) (hx : a.eval y = .slice A m c) (hrow : ERow w (some base) e size E (.slice A m c) l2)
    (hone : ∀ cs x, E w cs x → ∀ u ∈ cs, u.oneCell' = true) (hE : ∀ w', Only e w w' → ∀ cs x, E w cs x → E w' cs x)
    (h63 : l.length + l2.length ≤ maxLen) (hbytes : (l.length + l2.length) * bytes ≤ 140737488355328) (hbase : base ≤ w.heap.size)
    (h : ∀ v' w', ERow w' (some base) e size E v' (l ++ l2) → Below base w w' → Only e w w' → w.grownBy w' v.ownBlock → wpList P ops Q rest (a.put o.dst v') w') :
    wpList P ops Q (o :: rest) a w := by
  obtain ⟨css, k1, k2, k3, k4⟩ := hown
  obtain ⟨ds, j1, j2, j3, j4⟩ := hrow
  have hrow' : w.ownsRow base e size v l.length css.flatten := k3
  obtain ⟨A', c', e', g1, g2, g3, g4⟩ := j3.slice
  injection e' with e1 e2 e3
  subst e1 e2 e3
  refine wpList_append_src (by simp [Region.wanted, hgd]) s y t ho base e z size bytes ht hi hzs hpos v l.length css.flatten hs hrow' A l2.length c ds.flatten hx g3 (by rw [flatten_len j2, j1]) (fun ad had j u hu => ?_) (fun u hu => ?_) h63 hbytes hbase ?_
  · have hj : j < ds.flatten.length := (List.getElem?_eq_some_iff.1 hu).1
    obtain ⟨g, off, e4, hc⟩ := g4 (by omega)
    rw [had] at e4
    injection e4 with e4
    subst e4
    have ha : (⟨g, off, none⟩ : Addr).add j = ⟨g, off + j, none⟩ := by simp [Addr.add]
    rw [ha]
    exact hc j u hu
  · obtain ⟨cs, hcs, hu'⟩ := List.mem_flatten.1 hu
    obtain ⟨i, hi', rfl⟩ := List.getElem_of_mem hcs
    exact hone _ _ (j4 i hi' (by omega)) u hu'
  · intro v' w' hr' hg' hb'
    have ho' := Only.row hg' hrow'
    refine h v' w' ⟨css ++ ds, by simp [k1, j1], fun cs hc => ?_, ?_, fun i ha hb => ?_⟩ hb' ho' hg'
    · rcases List.mem_append.1 hc with h | h
      · exact k2 cs h
      · exact j2 cs h
    · show w'.ownsRow base e size v' (l ++ l2).length (css ++ ds).flatten
      rw [List.length_append, List.flatten_append]
      exact hr'
    · rcases Nat.lt_or_ge i css.length with hi | hi
      · rw [List.getElem_append_left hi, List.getElem_append_left (by omega)]
        exact hE _ ho' _ _ (k4 i hi (by omega))
      · rw [List.getElem_append_right hi, List.getElem_append_right (by omega)]
        have hd : i - css.length < ds.length := by simp at ha; omega
        have e5 : l2[i - l.length]'(by simp at hb; omega) = l2[i - css.length]'(by omega) := by congr 1; omega
        rw [e5]
        exact hE _ ho' _ _ (j4 _ hd (by omega))
end Go.Proofs.YtmncppnpppdfkaaDoor
