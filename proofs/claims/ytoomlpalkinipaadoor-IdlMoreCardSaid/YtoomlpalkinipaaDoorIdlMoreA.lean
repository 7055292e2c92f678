/- IdlMore: a row put behind a row; three of them, behind a schema's. -/
import Derived.Test.YtoomlpalkinipaaDoorIdlLaw2
import Derived.Test.YtoomlpalkinipaaDoorIdlWk
set_option linter.unusedVariables false
set_option linter.unusedSimpArgs false
namespace Go.Proofs.YtoomlpalkinipaaDoor
open Go.RowKit
theorem ERow.own_lt {α : Type} {w : World} {b : Nat} {t : TypeId} {size : Nat} {E : World → List Value → α → Prop} {v : Value} {l : List α} (h : ERow w (some b) t size E v l) : ∀ j, v.ownBlock = some j → j < w.heap.size := by
  obtain ⟨css, h1, h2, h3, h4⟩ := h
  exact fun j hj => (World.ownsRow.lt (show w.ownsRow b t size v l.length css.flatten from h3) j hj).2
/-- A whole row put behind a row of the call's own. -/
theorem wpList_append_rows {P : Program} {ops : Array Oper} {rest : List Oper} {o : Oper} {a : Act} {Q : Exit → Act → World → Prop} {w : World} (hgd : o.guard = none) (s y : Operand) (t : TypeId)
    (ho : o.op = .call { callee := .builtin .append, args := #[s, y], argTypes := #[t, t] })
    (base : Nat) (e : TypeId) (z : Value) (size bytes : Nat) (ht : P.underlying t = some (.slice e)) (hi : (P.info? e).map (fun i => (i.zero, i.size, i.bytes)) = some (some z, size, bytes)) (hzs : z.cells.size = size) (hpos : 0 < size)
    {α : Type} (E : World → List Value → α → Prop) (v : Value) (l : List α) (hs : a.eval s = v) (hown : ERow w (some base) e size E v l)
    (A : Option Addr) (m c : Nat) (l2 : List α) (hx : a.eval y = .slice A m c) (hrow : ERow w (some base) e size E (.slice A m c) l2)
    (hone : ∀ cs x, E w cs x → ∀ u ∈ cs, u.oneCell' = true) (hE : ∀ w', Only e w w' → ∀ cs x, E w cs x → E w' cs x)
    (h63 : l.length + l2.length ≤ maxLen) (hbytes : (l.length + l2.length) * bytes ≤ 140737488355328) (hbase : base ≤ w.heap.size)
    (h : ∀ v' w', ERow w' (some base) e size E v' (l ++ l2) → Below base w w' → Only e w w' → w.grownBy w' v.ownBlock → wpList P ops Q rest (a.put o.dst v') w') :
    wpList P ops Q (o :: rest) a w := by
  obtain ⟨css, k1, k2, k3, k4⟩ := hown
  obtain ⟨ds, j1, j2, j3, j4⟩ := hrow
  have hrow' : w.ownsRow base e size v l.length css.flatten := k3
  obtain ⟨A', c', e', g1, g2, g3, g4⟩ := j3.slice
  injection e' with e1 e2 e3
  subst e1 e2 e3
  refine wpList_append_src (by simp [Region.wanted, hgd]) s y t ho base e z size bytes ht hi hzs hpos v l.length css.flatten hs hrow' A l2.length c ds.flatten hx g3 (by rw [flatten_len j2, j1]) (fun ad had j u hu => ?_) (fun u hu => ?_) h63 hbytes hbase ?_
  · have hj : j < ds.flatten.length := (List.getElem?_eq_some_iff.1 hu).1
    obtain ⟨g, off, e4, hc⟩ := g4 (by omega)
    rw [had] at e4
    injection e4 with e4
    subst e4
    have ha : (⟨g, off, none⟩ : Addr).add j = ⟨g, off + j, none⟩ := by simp [Addr.add]
    rw [ha]
    exact hc j u hu
  · obtain ⟨cs, hcs, hu'⟩ := List.mem_flatten.1 hu
    obtain ⟨i, hi', rfl⟩ := List.getElem_of_mem hcs
    exact hone _ _ (j4 i hi' (by omega)) u hu'
  · intro v' w' hr' hg' hb'
    have ho' := Only.row hg' hrow'
    refine h v' w' ⟨css ++ ds, by simp [k1, j1], fun cs hc => ?_, ?_, fun i ha hb => ?_⟩ hb' ho' hg'
    · rcases List.mem_append.1 hc with h | h
      · exact k2 cs h
      · exact j2 cs h
    · show w'.ownsRow base e size v' (l ++ l2).length (css ++ ds).flatten
      rw [List.length_append, List.flatten_append]
      exact hr'
    · rcases Nat.lt_or_ge i css.length with hi | hi
      · rw [List.getElem_append_left hi, List.getElem_append_left (by omega)]
        exact hE _ ho' _ _ (k4 i hi (by omega))
      · rw [List.getElem_append_right hi, List.getElem_append_right (by omega)]
        have hd : i - css.length < ds.length := by simp at ha; omega
        have e5 : l2[i - l.length]'(by simp at hb; omega) = l2[i - css.length]'(by omega) := by congr 1; omega
        rw [e5]
        exact hE _ ho' _ _ (j4 _ hd (by omega))
theorem Kp.grow {base : Nat} {T : List TypeId} {w w' : World} {v : Value} (h : w.grownBy w' v.ownBlock) (hv : ∀ j, v.ownBlock = some j → j < base) : Kp base T w w' := fun g cs t hg _ hc =>
  (h.block g (Array.getElem?_eq_some_iff.1 hc).1 (by intro e; have := hv g e.symm; omega)).trans hc
namespace Id
theorem SchV.kp {b : Nat} {w w' : World} {v : Value} {x : Sch} (h : SchV w (some b) v x) (hk : Kp b schT w w') : SchV w' (some b) v x := by
  obtain ⟨A1, n1, c1, A2, n2, c2, A3, n3, c3, e, h1, h2, h3⟩ := h
  exact ⟨A1, n1, c1, A2, n2, c2, A3, n3, c3, e, h1.kp hk (Nat.le_refl _) (by decide) (by decide) (by decide), h2.kp hk (Nat.le_refl _) (by decide) (by decide), h3.kp hk (Nat.le_refl _) (by decide) (by decide)⟩
theorem RecE.one {B : Option Nat} {w : World} (cs : List Value) (x : Rec) (h : RecE B w cs x) : ∀ u ∈ cs, u.oneCell' = true := by
  obtain ⟨u, rfl, hs⟩ := h
  obtain ⟨_, _, _, rfl⟩ := ERow.is hs
  simp [Value.oneCell']
theorem SvcE.one {B : Option Nat} {w : World} (cs : List Value) (x : Svc) (h : SvcE B w cs x) : ∀ u ∈ cs, u.oneCell' = true := by
  obtain ⟨u, rfl, hs⟩ := h
  obtain ⟨_, _, _, rfl⟩ := ERow.is hs
  simp [Value.oneCell']
theorem SagE.one {B : Option Nat} {w : World} (cs : List Value) (x : Sag) (h : SagE B w cs x) : ∀ u ∈ cs, u.oneCell' = true := by
  obtain ⟨u, rfl, hs⟩ := h
  obtain ⟨_, _, _, rfl⟩ := ERow.is hs
  simp [Value.oneCell']
theorem RecE.only {b : Nat} {w : World} (w' : World) (h : Only 54 w w') (cs : List Value) (x : Rec) (hx : RecE (some b) w cs x) : RecE (some b) w' cs x :=
  RecE.kp (T := [64, 78]) (h.kp b (by decide)) (Nat.le_refl _) (by decide) (by decide) cs x hx
theorem SvcE.only {b : Nat} {w : World} (w' : World) (h : Only 58 w w') (cs : List Value) (x : Svc) (hx : SvcE (some b) w cs x) : SvcE (some b) w' cs x :=
  SvcE.kp (T := [88]) (h.kp b (by decide)) (Nat.le_refl _) (by decide) cs x hx
theorem SagE.only {b : Nat} {w : World} (w' : World) (h : Only 62 w w') (cs : List Value) (x : Sag) (hx : SagE (some b) w cs x) : SagE (some b) w' cs x :=
  SagE.kp (T := [66]) (h.kp b (by decide)) (Nat.le_refl _) (by decide) cs x hx
/-- The boxes of IdlMore, k of whose rows are put together. -/
structure MS (k : Nat) (w0 w : World) (bu g5 g8 g11 : Nat) (n m : ByteArray) (xr yr : List Rec) (xv yv : List Svc) (xg yg : List Sag) (u : Sch) (S1 S2 S3 T1 T2 T3 : Value) (U : Array Value) : Prop where
  q5 : Bk w g5 26 #[.string n, S1, S2, S3]
  q8 : Bk w g8 26 #[.string m, T1, T2, T3]
  q11 : Bk w g11 26 U
  lo : w0.heap.size ≤ g5
  d8 : g5 < g8
  d11 : g8 < g11
  s1 : RecsR w (some w0.heap.size) S1 xr
  s2 : SvcsR w (some w0.heap.size) S2 xv
  s3 : SagsR w (some w0.heap.size) S3 xg
  t1 : k = 0 → RecsR w (some w0.heap.size) T1 yr
  t2 : k ≤ 1 → SvcsR w (some w0.heap.size) T2 yv
  t3 : k ≤ 2 → SagsR w (some w0.heap.size) T3 yg
  o1 : k = 0 → ∀ j, S1.ownBlock = some j → j < bu
  o2 : k ≤ 1 → ∀ j, S2.ownBlock = some j → j < bu
  o3 : k ≤ 2 → ∀ j, S3.ownBlock = some j → j < bu
  uv : SchV w (some bu) (.agg U) u
  bl : Below w0.heap.size w0 w
theorem below_box {B g i : Nat} {w0 w : World} {v : Value} (h : Below B w0 w) (hg : B ≤ g) (hB : B ≤ w.heap.size) : Below B w0 (w.setCell ⟨g, i, none⟩ v) := below_gb h (gb_set (gb_refl w (some g)) (Or.inl rfl) v) hg hB
section
variable {w0 w w' : World} {bu g5 g8 g11 : Nat} {n m : ByteArray} {xr yr : List Rec} {xv yv : List Svc} {xg yg : List Sag} {u : Sch} {S1 S2 S3 T1 T2 T3 : Value} {U : Array Value}
theorem MS.rcs (h : MS 0 w0 w bu g5 g8 g11 n m xr yr xv yv xg yg u S1 S2 S3 T1 T2 T3 U) {V : Value} (hr : RecsR w' (some w0.heap.size) V (xr ++ yr)) (hb : Below w0.heap.size w w') (ho : Only 54 w w') (hg : w.grownBy w' S1.ownBlock) :
    MS 1 w0 (w'.setCell ⟨g5, 1, none⟩ V) bu g5 g8 g11 n m (xr ++ yr) yr xv yv xg yg u V S2 S3 T1 T2 T3 U := by
  have q5 := ho.bk h.q5 (by decide)
  have q8 := ho.bk h.q8 (by decide)
  have q11 := ho.bk h.q11 (by decide)
  have hd8 := h.d8
  have hd11 := h.d11
  have hk : ∀ b, Kp b [58, 88, 62, 66] w w' := fun b => ho.kp b (by decide)
  have hs : ∀ b, Kp b schT w' (w'.setCell ⟨g5, 1, none⟩ V) := fun b => (Only.set q5 1 _).kp b (by decide)
  exact ⟨q5.set_ 1 _, q8.far (by simp; omega) _, q11.far (by simp; omega) _, h.lo, h.d8, h.d11, hr.kp (hs _) (Nat.le_refl _) (by decide) (by decide) (by decide), (h.s2.kp (hk _) (Nat.le_refl _) (by decide) (by decide)).kp (hs _) (Nat.le_refl _) (by decide) (by decide), (h.s3.kp (hk _) (Nat.le_refl _) (by decide) (by decide)).kp (hs _) (Nat.le_refl _) (by decide) (by decide),
    (fun e => by cases e), (fun _ => ((h.t2 (by omega)).kp (hk _) (Nat.le_refl _) (by decide) (by decide)).kp (hs _) (Nat.le_refl _) (by decide) (by decide)), (fun _ => ((h.t3 (by omega)).kp (hk _) (Nat.le_refl _) (by decide) (by decide)).kp (hs _) (Nat.le_refl _) (by decide) (by decide)),
    (fun e => by cases e), (fun _ => h.o2 (by omega)), (fun _ => h.o3 (by omega)), (h.uv.kp (Kp.grow hg (h.o1 rfl))).kp (hs _), below_box (h.bl.trans hb) h.lo (Nat.le_trans h.bl.size ho.size)⟩
theorem MS.svc (h : MS 1 w0 w bu g5 g8 g11 n m xr yr xv yv xg yg u S1 S2 S3 T1 T2 T3 U) {V : Value} (hr : SvcsR w' (some w0.heap.size) V (xv ++ yv)) (hb : Below w0.heap.size w w') (ho : Only 58 w w') (hg : w.grownBy w' S2.ownBlock) :
    MS 2 w0 (w'.setCell ⟨g5, 2, none⟩ V) bu g5 g8 g11 n m xr yr (xv ++ yv) yv xg yg u S1 V S3 T1 T2 T3 U := by
  have q5 := ho.bk h.q5 (by decide)
  have q8 := ho.bk h.q8 (by decide)
  have q11 := ho.bk h.q11 (by decide)
  have hd8 := h.d8
  have hd11 := h.d11
  have hk : ∀ b, Kp b [54, 64, 78, 62, 66] w w' := fun b => ho.kp b (by decide)
  have hs : ∀ b, Kp b schT w' (w'.setCell ⟨g5, 2, none⟩ V) := fun b => (Only.set q5 2 _).kp b (by decide)
  exact ⟨q5.set_ 2 _, q8.far (by simp; omega) _, q11.far (by simp; omega) _, h.lo, h.d8, h.d11, (h.s1.kp (hk _) (Nat.le_refl _) (by decide) (by decide) (by decide)).kp (hs _) (Nat.le_refl _) (by decide) (by decide) (by decide), hr.kp (hs _) (Nat.le_refl _) (by decide) (by decide), (h.s3.kp (hk _) (Nat.le_refl _) (by decide) (by decide)).kp (hs _) (Nat.le_refl _) (by decide) (by decide),
    (fun e => by cases e), (fun e => by omega), (fun _ => ((h.t3 (by omega)).kp (hk _) (Nat.le_refl _) (by decide) (by decide)).kp (hs _) (Nat.le_refl _) (by decide) (by decide)),
    (fun e => by cases e), (fun e => by omega), (fun _ => h.o3 (by omega)), (h.uv.kp (Kp.grow hg (h.o2 (by omega)))).kp (hs _), below_box (h.bl.trans hb) h.lo (Nat.le_trans h.bl.size ho.size)⟩
theorem MS.sag (h : MS 2 w0 w bu g5 g8 g11 n m xr yr xv yv xg yg u S1 S2 S3 T1 T2 T3 U) {V : Value} (hr : SagsR w' (some w0.heap.size) V (xg ++ yg)) (hb : Below w0.heap.size w w') (ho : Only 62 w w') (hg : w.grownBy w' S3.ownBlock) :
    MS 3 w0 (w'.setCell ⟨g5, 3, none⟩ V) bu g5 g8 g11 n m xr yr xv yv (xg ++ yg) yg u S1 S2 V T1 T2 T3 U := by
  have q5 := ho.bk h.q5 (by decide)
  have q8 := ho.bk h.q8 (by decide)
  have q11 := ho.bk h.q11 (by decide)
  have hd8 := h.d8
  have hd11 := h.d11
  have hk : ∀ b, Kp b [54, 64, 78, 58, 88] w w' := fun b => ho.kp b (by decide)
  have hs : ∀ b, Kp b schT w' (w'.setCell ⟨g5, 3, none⟩ V) := fun b => (Only.set q5 3 _).kp b (by decide)
  exact ⟨q5.set_ 3 _, q8.far (by simp; omega) _, q11.far (by simp; omega) _, h.lo, h.d8, h.d11, (h.s1.kp (hk _) (Nat.le_refl _) (by decide) (by decide) (by decide)).kp (hs _) (Nat.le_refl _) (by decide) (by decide) (by decide), (h.s2.kp (hk _) (Nat.le_refl _) (by decide) (by decide)).kp (hs _) (Nat.le_refl _) (by decide) (by decide), hr.kp (hs _) (Nat.le_refl _) (by decide) (by decide),
    (fun e => by cases e), (fun e => by omega), (fun e => by omega),
    (fun e => by cases e), (fun e => by omega), (fun e => by omega), (h.uv.kp (Kp.grow hg (h.o3 (by omega)))).kp (hs _), below_box (h.bl.trans hb) h.lo (Nat.le_trans h.bl.size ho.size)⟩
end
theorem MS.start {w w1 w2 w3 : World} {n m k : ByteArray} {S1 S2 S3 T1 T2 T3 U1 U2 U3 : Value} {x y u : Sch} (hb1 : Below w.heap.size w w1) (h1 : SchV w1 (some w.heap.size) (.agg #[.string n, S1, S2, S3]) x)
    (hb2 : Below (w1.alloc (.cells #[.string n, S1, S2, S3] 26)).heap.size (w1.alloc (.cells #[.string n, S1, S2, S3] 26)) w2) (h2 : SchV w2 (some (w1.alloc (.cells #[.string n, S1, S2, S3] 26)).heap.size) (.agg #[.string m, T1, T2, T3]) y)
    (hb3 : Below (w2.alloc (.cells #[.string m, T1, T2, T3] 26)).heap.size (w2.alloc (.cells #[.string m, T1, T2, T3] 26)) w3) (h3 : SchV w3 (some (w2.alloc (.cells #[.string m, T1, T2, T3] 26)).heap.size) (.agg #[.string k, U1, U2, U3]) u) :
    MS 0 w (w3.alloc (.cells #[.string k, U1, U2, U3] 26)) (w2.heap.size + 1) w1.heap.size w2.heap.size w3.heap.size n m x.records y.records x.services y.services x.sagas y.sagas u S1 S2 S3 T1 T2 T3 #[.string k, U1, U2, U3] := by
  have z1 := hb1.size
  have z2 := hb2.size
  have z3 := hb3.size
  rw [World.size_alloc] at z2 z3
  have e3 := Below.alloc (Below.refl w3.heap.size w3) (Nat.le_refl _) (.cells #[.string k, U1, U2, U3] 26)
  have e2 := bl_join (Below.alloc (Below.refl w2.heap.size w2) (Nat.le_refl _) (.cells #[.string m, T1, T2, T3] 26)) hb3
  have e1 := bl_join (Below.alloc (Below.refl w1.heap.size w1) (Nat.le_refl _) (.cells #[.string n, S1, S2, S3] 26)) hb2
  have e23 := bl_join e2 e3
  have e123 := bl_join e1 e23
  have q5 := (((Bk.new w1 26 #[.string n, S1, S2, S3]).below hb2 (by simp)).below e23 (by omega))
  have q8 := (((Bk.new w2 26 #[.string m, T1, T2, T3]).below hb3 (by simp)).below e3 (by omega))
  have h1' := SchV.below e123 h1
  have h2' := SchV.weak (wk_le (b' := w.heap.size) (by rw [World.size_alloc]; omega)) (SchV.below e23 h2)
  have h3' := SchV.below e3 h3
  rw [World.size_alloc] at h3'
  obtain ⟨A1, n1, c1, A2, n2, c2, A3, n3, c3, e, _, _, _⟩ := h1
  simp at e
  obtain ⟨rfl, rfl, rfl, rfl⟩ := e
  obtain ⟨B1, m1, d1, B2, m2, d2, B3, m3, d3, e, _, _, _⟩ := h2
  simp at e
  obtain ⟨rfl, rfl, rfl, rfl⟩ := e
  rename_i r1 r2 r3 _ _ _
  obtain ⟨C1, p1, f1, C2, p2, f2, C3, p3, f3, e, a1, a2, a3⟩ := h1'
  simp at e
  obtain ⟨⟨rfl, rfl, rfl⟩, ⟨rfl, rfl, rfl⟩, ⟨rfl, rfl, rfl⟩⟩ := e
  obtain ⟨C1, p1, f1, C2, p2, f2, C3, p3, f3, e, b1, b2, b3⟩ := h2'
  simp at e
  obtain ⟨⟨rfl, rfl, rfl⟩, ⟨rfl, rfl, rfl⟩, ⟨rfl, rfl, rfl⟩⟩ := e
  have l1 := ERow.own_lt r1
  have l2 := ERow.own_lt r2
  have l3 := ERow.own_lt r3
  exact ⟨q5, q8, Bk.new _ _ _, by omega, by omega, by omega, a1, a2, a3, fun _ => b1, fun _ => b2, fun _ => b3, (fun _ j hj => by have := l1 j hj; omega), (fun _ j hj => by have := l2 j hj; omega), (fun _ j hj => by have := l3 j hj; omega), h3', bl_join hb1 e123⟩
theorem schemaF_count : ∀ (f : Nat) (s : St) (x : Sch), (schemaF f s x).1.records.length + (schemaF f s x).1.services.length + (schemaF f s x).1.sagas.length ≤ x.records.length + x.services.length + x.sagas.length + f
  | 0, s, x => by simp [schemaF]
  | f + 1, s, x => by
    rw [schemaF_round]
    split
    · simp only; omega
    · refine Nat.le_trans (schemaF_count f _ _) ?_
      unfold round
      dsimp only
      split
      · simp; omega
      · split
        · simp; omega
        · split
          · simp; omega
          · split
            · simp; omega
            · simp
theorem parse_count (s : ByteArray) : (parse s).1.records.length + (parse s).1.services.length + (parse s).1.sagas.length ≤ 65538 := by
  have hl := Tk.all_len s
  have hz : Sch.zero.records.length + Sch.zero.services.length + Sch.zero.sagas.length = 0 := rfl
  unfold parse whole
  split
  · exact Nat.le_trans (Nat.le_of_eq hz) (Nat.zero_le _)
  · generalize (Tk.all s).1 = l at hl ⊢
    have hc : (schema (l, false)).1.records.length + (schema (l, false)).1.services.length + (schema (l, false)).1.sagas.length ≤ 65538 := by
      unfold schema
      dsimp only
      refine Nat.le_trans (schemaF_count _ _ _) ?_
      have h1 := want_le (name (want (l, false) wModule)).2 sSemi
      have h2 := name_le (want (l, false) wModule)
      have h3 := want_le (l, false) wModule
      simp only [List.length_nil] at *
      omega
    split
    · split
      · exact Nat.le_trans (Nat.le_of_eq hz) (Nat.zero_le _)
      · exact hc
    · exact Nat.le_trans (Nat.le_of_eq hz) (Nat.zero_le _)
end Id
end Go.Proofs.YtoomlpalkinipaaDoor
