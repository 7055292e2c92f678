/- Rows of structs that hold rows: what lies there, element by element, and what keeps it. No condition. -/
import Derived.Test.YtoomlpalkinipaaDoorBlk
import Derived.Test.YtoomlpalkinipaaDoorAppend
import Derived.Test.YtoomlpalkinipaaDoorRes
set_option linter.unusedVariables false
namespace Go.Proofs.YtoomlpalkinipaaDoor
open Go.RowKit
/-- Blocks from base on, of some types, stay as they were. -/
def Kp (base : Nat) (T : List TypeId) (w w' : World) : Prop := ∀ (g : Nat) (cs : Array Value) (t : TypeId), base ≤ g → t ∈ T → w.heap[g]? = some (.cells cs t (0, 0)) → w'.heap[g]? = some (.cells cs t (0, 0))
theorem Kp.refl (base : Nat) (T : List TypeId) (w : World) : Kp base T w w := fun _ _ _ _ _ h => h
theorem Kp.trans {base : Nat} {T : List TypeId} {a b c : World} (h : Kp base T a b) (k : Kp base T b c) : Kp base T a c := fun g cs t hb ht hg => k g cs t hb ht (h g cs t hb ht hg)
theorem Kp.below {base : Nat} {T : List TypeId} {w w' : World} (h : Below w.heap.size w w') : Kp base T w w' := fun g cs t _ _ hg => (h.block g (Array.getElem?_eq_some_iff.1 hg).1).trans hg
theorem Kp.sub {base base' : Nat} {T T' : List TypeId} {w w' : World} (h : Kp base T w w') (hb : base ≤ base') (hT : ∀ t ∈ T', t ∈ T) : Kp base' T' w w' := fun g cs t hg ht hc => h g cs t (by omega) (hT t ht) hc
/-- Writes to a block below. -/
theorem Kp.grown {base b : Nat} {T : List TypeId} {w w' : World} (h : w.grownBy w' (some b)) (hb : b < base) : Kp base T w w' := fun g cs t hg _ hc => (h.block g (Array.getElem?_eq_some_iff.1 hc).1 (by intro e; injection e with e; omega)).trans hc
/-- Writes to a block of another type. -/
theorem Kp.other {base b : Nat} {T : List TypeId} {w w' : World} {cs : Array Value} {t : TypeId} {fr : Nat × Nat} (h : w.grownBy w' (some b)) (hb : w.heap[b]? = some (.cells cs t fr)) (ht : t ∉ T) : Kp base T w w' := fun g cs' t' hg ht' hc => (h.block g (Array.getElem?_eq_some_iff.1 hc).1 (by
  intro e
  injection e with e
  subst e
  rw [hb] at hc
  injection hc with hc
  injection hc with _ h2
  exact ht (h2 ▸ ht'))).trans hc
/-- An append to a row of another type. -/
theorem Kp.row {base b0 : Nat} {T : List TypeId} {w w' : World} {t : TypeId} {size n : Nat} {v : Value} {xs : List Value} (h : w.grownBy w' v.ownBlock) (hr : w.ownsRow b0 t size v n xs) (ht : t ∉ T) : Kp base T w w' := by
  rcases hr.2 with ⟨rfl, _⟩ | ⟨g, cap, cur, rfl, _, hg, _⟩
  · exact fun g cs t' _ _ hc => (h.block g (Array.getElem?_eq_some_iff.1 hc).1 (by intro e; cases e)).trans hc
  · exact Kp.other h hg ht
/-- A row as it lies: of the call's own from a base on, or not. -/
def RowR (w : World) (B : Option Nat) (t : TypeId) (size : Nat) (v : Value) (n : Nat) (xs : List Value) : Prop :=
  match B with
  | none => xs.length = n * size ∧ ∃ A c, v = .slice A n c ∧ n ≤ c ∧ c ≤ 9223372036854775807 ∧ (A = none → n = 0 ∧ c = 0) ∧ Lie w A xs
  | some base => w.ownsRow base t size v n xs
section
variable {w w' : World} {B : Option Nat} {t : TypeId} {size n : Nat} {v : Value} {xs : List Value}
theorem RowR.slice (h : RowR w B t size v n xs) : ∃ A c, v = .slice A n c ∧ n ≤ c ∧ c ≤ 9223372036854775807 ∧ (A = none → n = 0 ∧ c = 0) ∧ Lie w A xs := by
  cases B with
  | none => exact h.2
  | some base =>
    obtain ⟨A, c, rfl, hl, _, hnc, hA, _⟩ := Lie.of_own (show w.ownsRow base t size v n xs from h)
    refine ⟨A, c, rfl, hnc, ?_, hA, hl⟩
    rcases (show w.ownsRow base t size _ n xs from h).2 with ⟨e, _⟩ | ⟨g, cap, cur, e, _, _, _, hc, _⟩
    · injection e with _ _ e; omega
    · injection e with _ _ e; unfold maxLen at hc; omega
theorem RowR.len (h : RowR w B t size v n xs) : xs.length = n * size := by
  cases B with
  | none => exact h.1
  | some base => exact World.ownsRow.lt (show w.ownsRow base t size v n xs from h) |> fun _ => (show w.ownsRow base t size v n xs from h).1
theorem RowR.weak {B' : Option Nat} (h : RowR w B t size v n xs) (hB : ∀ b', B' = some b' → ∃ b, B = some b ∧ b' ≤ b) : RowR w B' t size v n xs := by
  cases B' with
  | none => exact ⟨h.len, h.slice⟩
  | some b' =>
    obtain ⟨b, rfl, hb⟩ := hB b' rfl
    refine ⟨(show w.ownsRow b t size v n xs from h).1, ?_⟩
    rcases (show w.ownsRow b t size v n xs from h).2 with hn | ⟨g, cap, cur, rfl, hbs, rest⟩
    · exact .inl hn
    · exact .inr ⟨g, cap, cur, rfl, by omega, rest⟩
theorem RowR.below (h : RowR w B t size v n xs) (hb : Below w.heap.size w w') : RowR w' B t size v n xs := by
  cases B with
  | none =>
    obtain ⟨h1, A, c, e, h2, h3, h4, h5⟩ := h
    exact ⟨h1, A, c, e, h2, h3, h4, h5.below hb⟩
  | some base =>
    refine ⟨(show w.ownsRow base t size v n xs from h).1, ?_⟩
    rcases (show w.ownsRow base t size v n xs from h).2 with hn | ⟨g, cap, cur, rfl, hbs, hg, rest⟩
    · exact .inl hn
    · exact .inr ⟨g, cap, cur, rfl, hbs, (hb.block g (Array.getElem?_eq_some_iff.1 hg).1).trans hg, rest⟩
theorem RowR.kp {base b : Nat} {T : List TypeId} (h : RowR w (some b) t size v n xs) (hk : Kp base T w w') (hb : base ≤ b) (ht : t ∈ T) : RowR w' (some b) t size v n xs := by
  refine ⟨(show w.ownsRow b t size v n xs from h).1, ?_⟩
  rcases (show w.ownsRow b t size v n xs from h).2 with hn | ⟨g, cap, cur, rfl, hbs, hg, rest⟩
  · exact .inl hn
  · exact .inr ⟨g, cap, cur, rfl, hbs, hk g cur t (by omega) ht hg, rest⟩
end
theorem flatten_len {size : Nat} {css : List (List Value)} (h : ∀ cs ∈ css, cs.length = size) : css.flatten.length = css.length * size := by
  induction css with
  | nil => simp
  | cons a l ih => rw [List.flatten_cons, List.length_append, ih (fun c hc => h c (by simp [hc])), h a (by simp), List.length_cons, Nat.succ_mul, Nat.add_comm]
theorem flatten_get {size : Nat} : ∀ {css : List (List Value)} (_ : ∀ cs ∈ css, cs.length = size) {j : Nat} (hj : j < css.length) (i : Nat), i < size → css.flatten[j * size + i]? = css[j][i]?
  | [], _, j, hj, _, _ => by simp at hj
  | a :: l, h, 0, _, i, hi => by
    rw [List.flatten_cons, Nat.zero_mul, Nat.zero_add, List.getElem?_append_left (by rw [h a (by simp)]; exact hi)]
    rfl
  | a :: l, h, j + 1, hj, i, hi => by
    have ha := h a (by simp)
    rw [List.flatten_cons, List.getElem?_append_right (by rw [ha, Nat.succ_mul]; omega), ha, show (j + 1) * size + i - size = j * size + i from by rw [Nat.succ_mul]; omega]
    exact flatten_get (fun c hc => h c (by simp [hc])) (by simpa using hj) i hi
/-- A row of structs: E tells what an element's cells mean. -/
def ERow {α : Type} (w : World) (B : Option Nat) (t : TypeId) (size : Nat) (E : World → List Value → α → Prop) (v : Value) (l : List α) : Prop :=
  ∃ css : List (List Value), css.length = l.length ∧ (∀ cs ∈ css, cs.length = size) ∧ RowR w B t size v l.length css.flatten ∧ ∀ i (h : i < css.length) (h' : i < l.length), E w css[i] l[i]
section
variable {α : Type} {w w' : World} {B : Option Nat} {t : TypeId} {size : Nat} {E : World → List Value → α → Prop} {v : Value} {l : List α}
theorem ERow.mono {B' : Option Nat} {E' : World → List Value → α → Prop} (h : ERow w B t size E v l) (hr : ∀ n xs, RowR w B t size v n xs → RowR w' B' t size v n xs) (hE : ∀ cs x, E w cs x → E' w' cs x) : ERow w' B' t size E' v l := by
  obtain ⟨css, h1, h2, h3, h4⟩ := h
  exact ⟨css, h1, h2, hr _ _ h3, fun i a b => hE _ _ (h4 i a b)⟩
theorem ERow.below (h : ERow w B t size E v l) (hb : Below w.heap.size w w') (hE : ∀ cs x, E w cs x → E w' cs x) : ERow w' B t size E v l := h.mono (fun _ _ hr => hr.below hb) hE
theorem ERow.kp {base b : Nat} {T : List TypeId} (h : ERow w (some b) t size E v l) (hk : Kp base T w w') (hb : base ≤ b) (ht : t ∈ T) (hE : ∀ cs x, E w cs x → E w' cs x) : ERow w' (some b) t size E v l := h.mono (fun _ _ hr => hr.kp hk hb ht) hE
theorem ERow.nil (w : World) (b : Nat) (t : TypeId) (size : Nat) (E : World → List Value → α → Prop) : ERow w (some b) t size E (.slice none 0 0) [] :=
  ⟨[], rfl, (fun _ h => absurd h List.not_mem_nil), World.ownsRow_nil w b t size, fun i h => absurd h (Nat.not_lt_zero i)⟩
theorem ERow.slice (h : ERow w B t size E v l) : ∃ A c, v = .slice A l.length c ∧ l.length ≤ c ∧ c ≤ 9223372036854775807 ∧ (A = none → l.length = 0 ∧ c = 0) := by
  obtain ⟨css, h1, h2, h3, h4⟩ := h
  obtain ⟨A, c, e, h5, h6, h7, _⟩ := h3.slice
  exact ⟨A, c, e, h5, h6, h7⟩
theorem ERow.is (h : ERow w B t size E v l) : ∃ A n c, v = .slice A n c := by
  obtain ⟨A, c, e, _⟩ := h.slice
  exact ⟨A, _, c, e⟩
theorem ERow.get {A : Option Addr} {n c : Nat} (h : ERow w B t size E (.slice A n c) l) {i : Nat} (hi : i < l.length) (hs : 0 < size) : ∃ g off cs, A = some ⟨g, off, none⟩ ∧ cs.length = size ∧ E w cs l[i] ∧ (∀ j u, cs[j]? = some u → w.cell? ⟨g, off + i * size + j, none⟩ = some u) := by
  obtain ⟨css, h1, h2, h3, h4⟩ := h
  obtain ⟨A', c', e, h5, h6, h7, h8⟩ := h3.slice
  injection e with e1 e2 e3
  subst e1
  obtain ⟨g, off, rfl, hc⟩ := h8 (by rw [h3.len]; exact Nat.mul_pos (by omega) hs)
  have hi' : i < css.length := by omega
  refine ⟨g, off, css[i], rfl, h2 _ (List.getElem_mem _), h4 i hi' hi, fun j u hu => ?_⟩
  have hj : j < size := by rw [← h2 _ (List.getElem_mem hi')]; exact (List.getElem?_eq_some_iff.1 hu).1
  rw [Nat.add_assoc]
  exact hc _ u (by rw [flatten_get h2 hi' j hj]; exact hu)
/-- One element more. -/
theorem ERow.snoc {b : Nat} {v' : Value} {x : α} {css : List (List Value)} {cs : List Value} (h1 : css.length = l.length) (h2 : ∀ cs ∈ css, cs.length = size) (h4 : ∀ i (h : i < css.length) (h' : i < l.length), E w' css[i] l[i])
    (hc : cs.length = size) (hx : E w' cs x) (h : w'.ownsRow b t size v' (l.length + 1) (css.flatten ++ cs)) : ERow w' (some b) t size E v' (l ++ [x]) := by
  refine ⟨css ++ [cs], by simp [h1], fun c hc' => ?_, ?_, fun i ha hb => ?_⟩
  · rcases List.mem_append.1 hc' with h | h
    · exact h2 c h
    · simp at h; subst h; exact hc
  · show w'.ownsRow b t size v' (l ++ [x]).length (css ++ [cs]).flatten
    rw [List.length_append, List.length_singleton, List.flatten_append, List.flatten_singleton]
    exact h
  · rcases Nat.lt_or_ge i css.length with hi | hi
    · rw [List.getElem_append_left hi, List.getElem_append_left (by omega)]
      exact h4 i hi (by omega)
    · have e : i = css.length := by simp at ha; omega
      subst e
      rw [List.getElem_append_right (Nat.le_refl _), List.getElem_append_right (by omega)]
      simpa using hx
end
/-- Nothing but cells of blocks of one type was written; memory may have grown. -/
structure Only (e : TypeId) (w w' : World) : Prop where
  os : w'.os = w.os
  tape : w'.tape = w.tape
  output : w'.output = w.output
  size : w.heap.size ≤ w'.heap.size
  block : ∀ (g : Nat) (o : Obj), w.heap[g]? = some o → (∀ (cs : Array Value) (fr : Nat × Nat), o ≠ Obj.cells cs e fr) → w'.heap[g]? = some o
theorem Only.below {e : TypeId} {w w' : World} (h : Below w.heap.size w w') : Only e w w' := ⟨h.os, h.tape, h.output, h.size, fun g o hg _ => (h.block g (Array.getElem?_eq_some_iff.1 hg).1).trans hg⟩
theorem Only.refl (e : TypeId) (w : World) : Only e w w := ⟨rfl, rfl, rfl, Nat.le_refl _, fun _ _ h _ => h⟩
theorem Only.trans {e : TypeId} {a b c : World} (h : Only e a b) (k : Only e b c) : Only e a c := ⟨k.os.trans h.os, k.tape.trans h.tape, k.output.trans h.output, Nat.le_trans h.size k.size, fun g o hg hn => k.block g o (h.block g o hg hn) hn⟩
theorem Only.kp {e : TypeId} {w w' : World} (h : Only e w w') (base : Nat) {T : List TypeId} (hT : e ∉ T) : Kp base T w w' := fun g cs t _ ht hg => h.block g _ hg (fun cs' fr' e' => by injection e' with _ e2; exact hT (e2 ▸ ht))
theorem Only.bk {e : TypeId} {w w' : World} (h : Only e w w') {g : Nat} {t : TypeId} {cs : Array Value} (hg : Bk w g t cs) (ht : t ≠ e) : Bk w' g t cs := h.block g _ hg (fun cs' fr' e' => by injection e' with _ e2; exact ht e2)
theorem Only.row {w w' : World} {b0 : Nat} {t : TypeId} {size n : Nat} {v : Value} {xs : List Value} (h : w.grownBy w' v.ownBlock) (hr : w.ownsRow b0 t size v n xs) : Only t w w' :=
  ⟨h.os, h.tape, h.output, h.size, fun g o hg hn => (h.block g (Array.getElem?_eq_some_iff.1 hg).1 (by
    intro e
    rcases hr.2 with ⟨rfl, _⟩ | ⟨g', cap, cur, rfl, _, hg', _⟩
    · cases e
    · simp [Value.ownBlock] at e
      subst e
      rw [hg] at hg'
      injection hg' with hg'
      exact hn _ _ hg')).trans hg⟩
theorem Only.set {w : World} {g : Nat} {e : TypeId} {cs : Array Value} {fr : Nat × Nat} (hg : w.heap[g]? = some (.cells cs e fr)) (j : Nat) (u : Value) : Only e w (w.setCell ⟨g, j, none⟩ u) :=
  ⟨rfl, rfl, rfl, by simp, fun g' o ho hn => (Below.heap_setCell w ⟨g, j, none⟩ u g' (by
    rintro rfl
    rw [hg] at ho
    injection ho with ho
    exact hn _ _ ho.symm)).trans ho⟩
theorem Only.typed {e : TypeId} {w w' : World} (h : Only e w w') {g : Nat} {t : TypeId} {cs : Array Value} {fr : Nat × Nat} (hg : w.heap[g]? = some (.cells cs t fr)) (ht : t ≠ e) : w'.heap[g]? = some (.cells cs t fr) := h.block g _ hg (fun cs' fr' e' => by injection e' with _ e2; exact ht e2)
theorem gb_join {a w w' : World} {row : Option Nat} (h : a.grownBy w row) (k : Below a.heap.size w w') : a.grownBy w' row :=
  ⟨k.os.trans h.os, k.tape.trans h.tape, k.output.trans h.output, Nat.le_trans h.size k.size, fun i hi hn => (k.block i hi).trans (h.block i hi hn)⟩
/-- An element appended to a row of the call's own. -/
theorem wpList_append_el {P : Program} {ops : Array Oper} {rest : List Oper} {o : Oper} {a : Act} {Q : Exit → Act → World → Prop} {w0 : World} (hgd : o.guard = none) (s y : Operand) (t : TypeId)
    (ho : o.op = .call { callee := .builtin .append, args := #[s, y], argTypes := #[t, t] })
    (base : Nat) (e : TypeId) (z : Value) (size bytes : Nat) (ht : P.underlying t = some (.slice e)) (hi : (P.info? e).map (fun i => (i.zero, i.size, i.bytes)) = some (some z, size, bytes)) (hzs : z.cells.size = size) (hpos : 0 < size)
    {α : Type} (E : World → List Value → α → Prop) (v : Value) (l : List α) (hs : a.eval s = v) (hown : ERow w0 (some base) e size E v l)
    (cs : List Value) (hcs : cs.length = size) (g : Nat) (hx : a.eval y = .slice (some ⟨g, 0, none⟩) 1 1) (hg0 : g = w0.heap.size) (h1 : ∀ u ∈ cs, u.oneCell' = true)
    (h63 : l.length + 1 ≤ maxLen) (hbytes : (l.length + 1) * bytes ≤ 140737488355328) (hbase : base ≤ w0.heap.size)
    (h : ∀ v' w', (∀ x, (∀ cs x, E w0 cs x → E w' cs x) → E w' cs x → ERow w' (some base) e size E v' (l ++ [x])) → Below base w0 w' → Only e w0 w' → wpList P ops Q rest (a.put o.dst v') w') :
    wpList P ops Q (o :: rest) a (w0.alloc (.cells cs.toArray e)) := by
  subst hg0
  obtain ⟨css, k1, k2, k3, k4⟩ := hown
  obtain ⟨i, hi0, hz0, hz1, hz2⟩ := info_parts hi
  have hown : w0.ownsRow base e size v l.length css.flatten := k3
  refine wpList_append_own_at _ hgd s y t ho base e i z size bytes ht hi0 hz0 hz1 hz2 hzs hpos v l.length css.flatten hs (hown.alloc _) ⟨w0.heap.size, 0, none⟩ 1 1 cs hx (by rw [hcs]; omega) (fun j u hu => ?_) h1 h63 hbytes (by simp; omega) ?_
  · have e' : ((⟨w0.heap.size, 0, none⟩ : Addr).add j) = ⟨w0.heap.size, j, none⟩ := by simp [Addr.add]; omega
    rw [e', World.cell?_alloc_mark]
    simpa using hu
  intro v' w' hown' hg _ hv
  refine h v' w' (fun x hE hx' => ERow.snoc k1 k2 (fun i a b => hE _ _ (k4 i a b)) hcs hx' hown') (((Below.refl base w0).alloc hbase _).grown hg (by simp; omega) (fun k hk => (hown.lt k hk).1)) ?_
  exact (Only.below ((Below.refl _ _).alloc (Nat.le_refl _) _)).trans (Only.row hg (hown.alloc _))
/-- The same within a region that draws its order. -/
theorem step_append_el {P : Program} {ops : Array Oper} {o : Oper} {a : Act} {w : World} {K : Act → World → Prop} {Q : Exit → Act → World → Prop} {H : Prop} (hgd : o.guard = none) (s y : Operand) (t : TypeId)
    (ho : o.op = .call { callee := .builtin .append, args := #[s, y], argTypes := #[t, t] })
    (base : Nat) (e : TypeId) (z : Value) (size bytes : Nat) (ht : P.underlying t = some (.slice e)) (hi : (P.info? e).map (fun i => (i.zero, i.size, i.bytes)) = some (some z, size, bytes)) (hzs : z.cells.size = size) (hpos : 0 < size)
    {α : Type} (E : World → List Value → α → Prop) (v : Value) (l : List α) (hs : a.eval s = v) (hown : ERow w (some base) e size E v l)
    (cs : List Value) (hcs : cs.length = size) (g : Nat) (hx : a.eval y = .slice (some ⟨g, 0, none⟩) 1 1) (hg0 : Bk w g e cs.toArray) (h1 : ∀ u ∈ cs, u.oneCell' = true)
    (h63 : l.length + 1 ≤ maxLen) (hbytes : (l.length + 1) * bytes ≤ 140737488355328) (hbase : base ≤ w.heap.size)
    (h : ∀ A n c w', (∀ x, (∀ cs x, E w cs x → E w' cs x) → E w' cs x → ERow w' (some base) e size E (.slice A n c) (l ++ [x])) → Below base w w' → Only e w w' → K (a.put o.dst (.slice A n c)) w') :
    if Region.wanted o (yielded ops a.tmps) = true then Oper.wp P o a w K Q else H := by
  obtain ⟨css, k1, k2, k3, k4⟩ := hown
  obtain ⟨i, hi0, hz0, hz1, hz2⟩ := info_parts hi
  have hown : w.ownsRow base e size v l.length css.flatten := k3
  refine step_append_lies _ hgd s y t ho base e i z size bytes ht hi0 hz0 hz1 hz2 hzs hpos v l.length css.flatten hs hown ⟨g, 0, none⟩ 1 1 cs hx (by rw [hcs]; omega) (fun j u hu => ?_) h1 (by omega) h63 hbytes hbase w.heap.size rfl ?_
  · have e' : ((⟨g, 0, none⟩ : Addr).add j) = ⟨g, j, none⟩ := by simp [Addr.add]; omega
    rw [e', hg0.cell j]
    simpa using hu
  intro g' cap w' hown' hg hat _
  exact h _ _ _ w' (fun x hE hx' => ERow.snoc k1 k2 (fun i a b => hE _ _ (k4 i a b)) hcs hx' hown') ((Below.refl base w).grown hg hbase (fun k hk => (hown.lt k hk).1)) (Only.row hg hown)
end Go.Proofs.YtoomlpalkinipaaDoor
