/- The document's side: Schema (printed by gen_rschema.py). -/
import Derived.Test.YtoomlpalkinipaaDoorIdlU
set_option linter.unusedVariables false
set_option linter.unusedSimpArgs false
namespace Go.Proofs.YtoomlpalkinipaaDoor
open Go.RowKit
theorem res_ct {fn : Func} {p u : Tmp} {ty : TypeId} (h : fn.results = #[.cell p ty, .tmp u]) (tmps : Array Value) (P : Program) (w : World) :
    (results fn tmps).run P w = ((asAddr (tmps.getD p undef)).run P w).andThen fun a w₁ => ((loadVar ty a).run P w₁).andThen fun x w₂ => .ok (.tuple #[x, tmps.getD u undef]) w₂ := by
  simp only [results, h]
  simp [Sem.run_bind, Result.andThen]
namespace Id
theorem wRecord_l : wRecord.toList = [114, 101, 99, 111, 114, 100] := by simp [wRecord, ByteArray.toList_mk]
theorem wChoice_l : wChoice.toList = [99, 104, 111, 105, 99, 101] := by simp [wChoice, ByteArray.toList_mk]
theorem wService_l : wService.toList = [115, 101, 114, 118, 105, 99, 101] := by simp [wService, ByteArray.toList_mk]
theorem wSaga_l : wSaga.toList = [115, 97, 103, 97] := by simp [wSaga, ByteArray.toList_mk]
theorem wModule_l : wModule.toList = [109, 111, 100, 117, 108, 101] := by simp [wModule, ByteArray.toList_mk]
theorem decl_cases {r : List Tk.Tok} {y : ByteArray} (hw : ∀ t r', r = t :: r' → t.kind = 1 ∨ t.kind = 2 ∨ (t.kind = 3 ∧ t.text.size ≤ 2)) (hy : word (r, false) = y) :
    ((y.toList == [114, 101, 99, 111, 114, 100]) = false ∧ (y.toList == [99, 104, 111, 105, 99, 101]) = false ∧ (y.toList == [115, 101, 114, 118, 105, 99, 101]) = false ∧ (y.toList == [115, 97, 103, 97]) = false ∧ words decls (r, false) = (⟨#[]⟩, (r, true))) ∨
    (((y.toList == [114, 101, 99, 111, 114, 100]) = true ∨ ((y.toList == [114, 101, 99, 111, 114, 100]) = false ∧ (y.toList == [99, 104, 111, 105, 99, 101]) = true) ∨ ((y.toList == [114, 101, 99, 111, 114, 100]) = false ∧ (y.toList == [99, 104, 111, 105, 99, 101]) = false ∧ (y.toList == [115, 101, 114, 118, 105, 99, 101]) = true) ∨ ((y.toList == [114, 101, 99, 111, 114, 100]) = false ∧ (y.toList == [99, 104, 111, 105, 99, 101]) = false ∧ (y.toList == [115, 101, 114, 118, 105, 99, 101]) = false ∧ (y.toList == [115, 97, 103, 97]) = true)) ∧ ∃ t r', r = t :: r' ∧ words decls (r, false) = (y, (r', false))) := by
  have hx := words_word (ws := decls) hw (by intro x hx; simp [decls] at hx; rcases hx with rfl | rfl | rfl | rfl <;> decide)
  rw [hy] at hx
  simp only [decls, List.any_cons, List.any_nil, Bool.or_false, wRecord_l, wChoice_l, wService_l, wSaga_l] at hx
  have hne : ∀ x : List UInt8, x ≠ [] → (y.toList == x) = true → ∃ t r', r = t :: r' := fun x h0 h => by
    cases r with
    | nil =>
      have : y = ⟨#[]⟩ := hy.symm
      rw [this, empty_toList] at h
      exact absurd (beq_iff_eq.1 h).symm h0
    | cons t r' => exact ⟨t, r', rfl⟩
  cases h1 : (y.toList == [114, 101, 99, 111, 114, 100])
  · cases h2 : (y.toList == [99, 104, 111, 105, 99, 101])
    · cases h3 : (y.toList == [115, 101, 114, 118, 105, 99, 101])
      · cases h4 : (y.toList == [115, 97, 103, 97])
        · rw [h1, h2, h3, h4] at hx
          exact .inl ⟨rfl, rfl, rfl, rfl, hx⟩
        · obtain ⟨t, r', rfl⟩ := hne _ (by simp) h4
          rw [h1, h2, h3, h4] at hx
          exact .inr ⟨.inr (.inr (.inr ⟨rfl, rfl, rfl, rfl⟩)), t, r', rfl, hx⟩
      · obtain ⟨t, r', rfl⟩ := hne _ (by simp) h3
        rw [h1, h2, h3] at hx
        exact .inr ⟨.inr (.inr (.inl ⟨rfl, rfl, rfl⟩)), t, r', rfl, hx⟩
    · obtain ⟨t, r', rfl⟩ := hne _ (by simp) h2
      rw [h1, h2] at hx
      exact .inr ⟨.inr (.inl ⟨rfl, rfl⟩), t, r', rfl, hx⟩
  · obtain ⟨t, r', rfl⟩ := hne _ (by simp) h1
    rw [h1] at hx
    exact .inr ⟨.inl rfl, t, r', rfl, hx⟩
theorem schemaF_bad (f : Nat) {s : St} (x : Sch) (h : s.2 = true) : schemaF f s x = (x, s) := by
  cases f with
  | zero => rfl
  | succ f => unfold schemaF; rw [if_pos (.inl h)]
theorem schemaF_step {f : Nat} {t : Tk.Tok} {r : List Tk.Tok} {x : Sch} {y : ByteArray} {s4 : St} (hw : words decls (t :: r, false) = (y, s4)) : schemaF (f + 1) (t :: r, false) x =
    if y.toList = [114, 101, 99, 111, 114, 100] then schemaF f (record false s4).2 { x with records := x.records ++ [(record false s4).1] } else
    if y.toList = [99, 104, 111, 105, 99, 101] then schemaF f (record true s4).2 { x with records := x.records ++ [(record true s4).1] } else
    if y.toList = [115, 101, 114, 118, 105, 99, 101] then schemaF f (service s4).2 { x with services := x.services ++ [(service s4).1] } else
    if y.toList = [115, 97, 103, 97] then schemaF f (saga s4).2 { x with sagas := x.sagas ++ [(saga s4).1] } else
    schemaF f s4 x := by
  rw [schemaF, if_neg (by simp), hw]
/-- What is told of a schema behind. -/
def SPost (w : World) (l : List Tk.Tok) (R : Sch × St) (e : Ending) (w' : World) : Prop := ∃ v i' x, e = .returned (.tuple #[v, .int .i64 i']) ∧ At l i' R.2 ∧ Below w.heap.size w w' ∧ SchV w' (some w.heap.size) v x ∧ (R.2.2 = false → x = R.1)
structure RSch (w : World) (l : List Tk.Tok) (R : Sch × St) (n : Nat) (i : Int) (wr : World) (s : St) (x : Sch) : Prop where
  at_ : At l i s
  fu : s.2 = false → s.1.length + 2 ≤ n
  fo : 1 ≤ n
  ln : s.2 = false → x.records.length + x.services.length + x.sagas.length + s.1.length ≤ 1000000
  bel : Below w.heap.size w wr
  res : Bk wr w.heap.size 26 #[.string ⟨#[]⟩, .slice none 0 0, .slice none 0 0, .slice none 0 0]
  blk : SchB wr (w.heap.size + 1) w.heap.size x
  out : s.2 = false → schemaF n s x = R
  bad : s.2 = true → R.2 = s
end Id
set_option maxRecDepth 100000 in
set_option maxHeartbeats 8000000 in
theorem rschema_any (A : Option Addr) (l : List Tk.Tok) (n c : Nat) (w : World) (hrc : Id.RC w A l n c) :
    Calls Tryd.prog 20 #[.slice A n c] w (Id.SPost w l (Id.schema (l, false))) := by
  obtain ⟨R, HR⟩ : ∃ R, Hid (Id.schema (l, false) = R) := ⟨_, Lib.hid rfl⟩
  rw [HR.out]
  have HC := Lib.hid hrc
  obtain ⟨s1, H1⟩ : ∃ R, Hid (Id.want (l, false) Id.wModule = R) := ⟨_, Lib.hid rfl⟩
  obtain ⟨⟨nm, s2⟩, H2⟩ : ∃ R, Hid (Id.name s1 = R) := ⟨_, Lib.hid rfl⟩
  obtain ⟨s3, H3⟩ : ∃ R, Hid (Id.want s2 Id.sSemi = R) := ⟨_, Lib.hid rfl⟩
  have HR0 : Hid (Id.schemaF (s3.1.length + 2) s3 ⟨nm, [], [], []⟩ = R) := Lib.hid (by rw [← HR.out]; unfold Id.schema; simp only [H1.out, H2.out, H3.out])
  clear hrc
  go_enter Tryd.func20, Tryd.ntmps20
  go_wp2_with fail
  refine (HC.out.step _ (((Below.refl w.heap.size w).alloc (Nat.le_refl _) _).alloc (by simp) _) 0 _ (Id.At.zero l) Id.wModule (by rw [Id.wModule_l]; simp)).mono ?_
  rintro e wq ⟨i1, rfl, hi1, hw⟩
  obtain rfl := hw.symm
  rw [H1.out] at hi1
  go_wp2_with fail
  refine (HC.out.name _ (((Below.refl w.heap.size w).alloc (Nat.le_refl _) _).alloc (by simp) _) i1 _ hi1).mono ?_
  rintro e wq ⟨i2, rfl, hi2, hw⟩
  obtain rfl := hw.symm
  rw [H2.out] at hi2 ⊢
  simp only at hi2 ⊢
  go_wp2_with fail
  have hq := Bk.new (w.alloc (.cells #[.string ⟨#[]⟩, .slice none 0 0, .slice none 0 0, .slice none 0 0] 26)) 26 #[.string nm, .slice none 0 0, .slice none 0 0, .slice none 0 0]
  rw [World.size_alloc] at hq
  have hres := (Bk.new w 26 #[.string ⟨#[]⟩, .slice none 0 0, .slice none 0 0, .slice none 0 0]).alloc (.cells #[.string nm, .slice none 0 0, .slice none 0 0, .slice none 0 0] 26)
  have HBl := Lib.hid (((Below.refl w.heap.size w).alloc (Nat.le_refl _) (.cells #[.string ⟨#[]⟩, .slice none 0 0, .slice none 0 0, .slice none 0 0] 26)).alloc (by simp) (.cells #[.string nm, .slice none 0 0, .slice none 0 0, .slice none 0 0] 26))
  generalize ((w.alloc (.cells #[.string ⟨#[]⟩, .slice none 0 0, .slice none 0 0, .slice none 0 0] 26)).alloc (.cells #[.string nm, .slice none 0 0, .slice none 0 0, .slice none 0 0] 26)) = W1 at *
  refine (HC.out.step _ HBl.out i2 _ hi2 Id.sSemi (by rw [Id.sSemi_l]; simp)).mono ?_
  rintro e wq ⟨i3, rfl, hi3, hw⟩
  obtain rfl := hw.symm
  rw [H3.out] at hi3
  have HA0 := Lib.hid (show Id.RSch w l R (s3.1.length + 2) i3 W1 s3 ⟨nm, [], [], []⟩ from ⟨hi3, fun _ => Nat.le_refl _, by omega, fun _ => by have := hi3.left; have := HC.out.le; simp; omega, HBl.out, hres, ⟨_, _, _, _, _, _, _, _, _, hq, ERow.nil _ _ _ _ _, ERow.nil _ _ _ _ _, ERow.nil _ _ _ _ _⟩, fun _ => HR0.out, fun hb => by rw [← HR0.out, Id.schemaF_bad _ _ hb]⟩)
  clear hq hres hi3 hi2 hi1 HBl
  go_wp2_with fail
  go_loopg [5] (s3.1.length + 2) (fun m vi wr => ∃ (j : Int) (s : Id.St) (x : Id.Sch), vi = .int .i64 j ∧ Hid (Id.RSch w l R m j wr s x))
  case atStart => exact ⟨i3, s3, _, rfl, HA0⟩
  case round =>
    obtain ⟨j, s, x, rfl, HA⟩ := hrel
    obtain ⟨f, rfl⟩ : ∃ f, gk = f + 1 := ⟨gk - 1, by have := HA.out.fo; omega⟩
    have hln := HA.out.ln
    have hfu := HA.out.fu
    have hbz := HA.out.bel.size
    have hne : ¬ w.heap.size + 1 = w.heap.size := by omega
    obtain ⟨hj1, hj2⟩ := HC.out.bound HA.out.at_
    obtain ⟨A1, n1, c1, A2, n2, c2, A3, n3, c3, hq, r1, r2, r3⟩ := HA.out.blk
    have hres := HA.out.res
    have HR1 := Lib.hid r1
    have HR2 := Lib.hid r2
    have HR3 := Lib.hid r3
    clear r1 r2 r3
    obtain ⟨r, bad⟩ := s
    obtain ⟨xn, xr, xv, xg⟩ := x
    simp only at hln hfu hq HR1 HR2 HR3
    cases bad
    case true =>
      have hj3 := HA.out.at_.bad rfl
      have hj4 : decide (0 ≤ j) = false := by simp; omega
      have hj5 : ¬ 0 ≤ j := by omega
      have HRb := Lib.hid (HA.out.bad rfl)
      clear hfu hln
      obtain ⟨⟨q0, q1, q2, q3⟩, q4, q5, q6, q7⟩ := hq.k4
      obtain ⟨⟨y0, y1, y2, y3⟩, y4, y5, y6, y7⟩ := hres.k4
      go_wp2_with fail
      clear q0 q1 q2 q3 q4 q5 q6 q7 y0 y1 y2 y3 y4 y5 y6 y7
      have hqf : Bk _ w.heap.size 26 #[.string xn, .slice A1 n1 c1, .slice A2 n2 c2, .slice A3 n3 c3] := ((((hres.set_ 0 (.string xn)).set_ 1 (.slice A1 n1 c1)).set_ 2 (.slice A2 n2 c2)).set_ 3 (.slice A3 n3 c3))
      have hBf := ((((HA.out.bel.setCell (p := ⟨w.heap.size, 0, none⟩) (Nat.le_refl _) (.string xn)).setCell (p := ⟨w.heap.size, 1, none⟩) (Nat.le_refl _) (.slice A1 n1 c1)).setCell (p := ⟨w.heap.size, 2, none⟩) (Nat.le_refl _) (.slice A2 n2 c2)).setCell (p := ⟨w.heap.size, 3, none⟩) (Nat.le_refl _) (.slice A3 n3 c3))
      have hof := ((((Only.set hres 0 (.string xn)).trans (Only.set (hres.set_ 0 (.string xn)) 1 (.slice A1 n1 c1))).trans (Only.set ((hres.set_ 0 (.string xn)).set_ 1 (.slice A1 n1 c1)) 2 (.slice A2 n2 c2))).trans (Only.set (((hres.set_ 0 (.string xn)).set_ 1 (.slice A1 n1 c1)).set_ 2 (.slice A2 n2 c2)) 3 (.slice A3 n3 c3)))
      have hk := hof.kp w.heap.size (T := Id.schT) (by decide)
      have g1 := HR1.out.kp hk (Nat.le_refl _) (by decide) (by decide) (by decide)
      have g2 := HR2.out.kp hk (Nat.le_refl _) (by decide) (by decide)
      have g3 := HR3.out.kp hk (Nat.le_refl _) (by decide) (by decide)
      generalize ((((wr.setCell ⟨w.heap.size, 0, none⟩ (.string xn)).setCell ⟨w.heap.size, 1, none⟩ (.slice A1 n1 c1)).setCell ⟨w.heap.size, 2, none⟩ (.slice A2 n2 c2)).setCell ⟨w.heap.size, 3, none⟩ (.slice A3 n3 c3)) = wf at *
      obtain ⟨⟨y0, y1, y2, y3⟩, _⟩ := hqf.k4
      refine bodyPost_ret (v := .tuple #[.agg #[.string xn, .slice A1 n1 c1, .slice A2 n2 c2, .slice A3 n3 c3], .int .i64 j]) ?_ rfl ⟨_, _, ⟨xn, xr, xv, xg⟩, rfl, by rw [HRb.out]; exact HA.out.at_, hBf, ⟨_, _, _, _, _, _, _, _, _, rfl, g1, g2, g3⟩, fun e => by rw [HRb.out] at e; cases e⟩
      rw [res_ct rfl]
      go_simp
      try rfl
    obtain ⟨hj3, hj3'⟩ := HA.out.at_.good rfl
    have hj4 : decide (0 ≤ j) = true := by simpa using hj3
    have HO := Lib.hid (HA.out.out rfl)
    replace hfu := hfu rfl
    replace hln := hln rfl
    cases r
    case nil =>
      have HE : Hid (R = (⟨xn, xr, xv, xg⟩, ([], false))) := Lib.hid (by rw [← HO.out]; unfold Id.schemaF; simp)
      have hj5 : j = n := by
        rcases HA.out.at_.cases with ⟨hb, _⟩ | ⟨_, e⟩ | ⟨k, hk, e, _⟩
        · cases hb
        · rw [HC.out.len]; exact e
        · cases e
      have hj6 : decide (j < (n : Int)) = false := by simp; omega
      have hj7 : ¬ j < (n : Int) := by omega
      clear hj5
      obtain ⟨⟨q0, q1, q2, q3⟩, q4, q5, q6, q7⟩ := hq.k4
      obtain ⟨⟨y0, y1, y2, y3⟩, y4, y5, y6, y7⟩ := hres.k4
      go_wp2_with fail
      clear q0 q1 q2 q3 q4 q5 q6 q7 y0 y1 y2 y3 y4 y5 y6 y7
      have hqf : Bk _ w.heap.size 26 #[.string xn, .slice A1 n1 c1, .slice A2 n2 c2, .slice A3 n3 c3] := ((((hres.set_ 0 (.string xn)).set_ 1 (.slice A1 n1 c1)).set_ 2 (.slice A2 n2 c2)).set_ 3 (.slice A3 n3 c3))
      have hBf := ((((HA.out.bel.setCell (p := ⟨w.heap.size, 0, none⟩) (Nat.le_refl _) (.string xn)).setCell (p := ⟨w.heap.size, 1, none⟩) (Nat.le_refl _) (.slice A1 n1 c1)).setCell (p := ⟨w.heap.size, 2, none⟩) (Nat.le_refl _) (.slice A2 n2 c2)).setCell (p := ⟨w.heap.size, 3, none⟩) (Nat.le_refl _) (.slice A3 n3 c3))
      have hof := ((((Only.set hres 0 (.string xn)).trans (Only.set (hres.set_ 0 (.string xn)) 1 (.slice A1 n1 c1))).trans (Only.set ((hres.set_ 0 (.string xn)).set_ 1 (.slice A1 n1 c1)) 2 (.slice A2 n2 c2))).trans (Only.set (((hres.set_ 0 (.string xn)).set_ 1 (.slice A1 n1 c1)).set_ 2 (.slice A2 n2 c2)) 3 (.slice A3 n3 c3)))
      have hk := hof.kp w.heap.size (T := Id.schT) (by decide)
      have g1 := HR1.out.kp hk (Nat.le_refl _) (by decide) (by decide) (by decide)
      have g2 := HR2.out.kp hk (Nat.le_refl _) (by decide) (by decide)
      have g3 := HR3.out.kp hk (Nat.le_refl _) (by decide) (by decide)
      generalize ((((wr.setCell ⟨w.heap.size, 0, none⟩ (.string xn)).setCell ⟨w.heap.size, 1, none⟩ (.slice A1 n1 c1)).setCell ⟨w.heap.size, 2, none⟩ (.slice A2 n2 c2)).setCell ⟨w.heap.size, 3, none⟩ (.slice A3 n3 c3)) = wf at *
      obtain ⟨⟨y0, y1, y2, y3⟩, _⟩ := hqf.k4
      refine bodyPost_ret (v := .tuple #[.agg #[.string xn, .slice A1 n1 c1, .slice A2 n2 c2, .slice A3 n3 c3], .int .i64 j]) ?_ rfl ⟨_, _, ⟨xn, xr, xv, xg⟩, rfl, by rw [HE.out]; exact HA.out.at_, hBf, ⟨_, _, _, _, _, _, _, _, _, rfl, g1, g2, g3⟩, fun e => by rw [HE.out]⟩
      rw [res_ct rfl]
      go_simp
      try rfl
    case cons t r' =>
      have hj5 : j < (n : Int) := by
        rcases HA.out.at_.cases with ⟨hb, _⟩ | ⟨e, _⟩ | ⟨k, hk, e, e2⟩
        · cases hb
        · cases e
        · rw [HC.out.len]; omega
      have hj6 : decide (j < (n : Int)) = true := by simpa using hj5
      obtain ⟨y, HY⟩ : ∃ y, Hid (Id.word (t :: r', false) = y) := ⟨_, Lib.hid rfl⟩
      have hdc := Id.decl_cases (HA.out.at_.well HC.out.well) HY.out
      simp only [List.length_cons] at hfu hln
      go_wp2_with fail
      refine (HC.out.text _ HA.out.bel j _ HA.out.at_).mono ?_
      rintro e wq ⟨rfl, hw⟩
      obtain rfl := hw.symm
      rw [HY.out]
      rcases hdc with ⟨tr, tc, ts, ta, hwd⟩ | ⟨hty, t2, r2, hr2, hwd⟩
      case inl =>
        have hst := Id.schemaF_step (f := f) (x := ⟨xn, xr, xv, xg⟩) hwd
        rw [HO.out, if_neg (by rw [Id.empty_toList]; simp), if_neg (by rw [Id.empty_toList]; simp), if_neg (by rw [Id.empty_toList]; simp), if_neg (by rw [Id.empty_toList]; simp), Id.schemaF_bad _ _ rfl] at hst
        have HE := Lib.hid hst
        clear hst hwd
        obtain ⟨⟨q0, q1, q2, q3⟩, q4, q5, q6, q7⟩ := hq.k4
        obtain ⟨⟨y0, y1, y2, y3⟩, y4, y5, y6, y7⟩ := hres.k4
        go_wp2_with fail
        clear q0 q1 q2 q3 q4 q5 q6 q7 y0 y1 y2 y3 y4 y5 y6 y7
        have hqf : Bk _ w.heap.size 26 #[.string xn, .slice A1 n1 c1, .slice A2 n2 c2, .slice A3 n3 c3] := ((((hres.set_ 0 (.string xn)).set_ 1 (.slice A1 n1 c1)).set_ 2 (.slice A2 n2 c2)).set_ 3 (.slice A3 n3 c3))
        have hBf := ((((HA.out.bel.setCell (p := ⟨w.heap.size, 0, none⟩) (Nat.le_refl _) (.string xn)).setCell (p := ⟨w.heap.size, 1, none⟩) (Nat.le_refl _) (.slice A1 n1 c1)).setCell (p := ⟨w.heap.size, 2, none⟩) (Nat.le_refl _) (.slice A2 n2 c2)).setCell (p := ⟨w.heap.size, 3, none⟩) (Nat.le_refl _) (.slice A3 n3 c3))
        have hof := ((((Only.set hres 0 (.string xn)).trans (Only.set (hres.set_ 0 (.string xn)) 1 (.slice A1 n1 c1))).trans (Only.set ((hres.set_ 0 (.string xn)).set_ 1 (.slice A1 n1 c1)) 2 (.slice A2 n2 c2))).trans (Only.set (((hres.set_ 0 (.string xn)).set_ 1 (.slice A1 n1 c1)).set_ 2 (.slice A2 n2 c2)) 3 (.slice A3 n3 c3)))
        have hk := hof.kp w.heap.size (T := Id.schT) (by decide)
        have g1 := HR1.out.kp hk (Nat.le_refl _) (by decide) (by decide) (by decide)
        have g2 := HR2.out.kp hk (Nat.le_refl _) (by decide) (by decide)
        have g3 := HR3.out.kp hk (Nat.le_refl _) (by decide) (by decide)
        generalize ((((wr.setCell ⟨w.heap.size, 0, none⟩ (.string xn)).setCell ⟨w.heap.size, 1, none⟩ (.slice A1 n1 c1)).setCell ⟨w.heap.size, 2, none⟩ (.slice A2 n2 c2)).setCell ⟨w.heap.size, 3, none⟩ (.slice A3 n3 c3)) = wf at *
        obtain ⟨⟨y0, y1, y2, y3⟩, _⟩ := hqf.k4
        refine bodyPost_ret (v := .tuple #[.agg #[.string xn, .slice A1 n1 c1, .slice A2 n2 c2, .slice A3 n3 c3], .int .i64 (-1 - j)]) ?_ rfl ⟨_, _, ⟨xn, xr, xv, xg⟩, rfl, by rw [HE.out]; exact HA.out.at_.fault, hBf, ⟨_, _, _, _, _, _, _, _, _, rfl, g1, g2, g3⟩, fun e => by rw [HE.out] at e; cases e⟩
        rw [res_ct rfl]
        go_simp
        try rfl
      injection hr2 with e1 e2
      subst e1 e2
      have HST := Lib.hid (Id.schemaF_step (f := f) (x := ⟨xn, xr, xv, xg⟩) hwd)
      have hi4 := HA.out.at_.next
      obtain ⟨⟨n5, s5⟩, H5⟩ : ∃ R, Hid (Id.name (r', false) = R) := ⟨_, Lib.hid rfl⟩
      clear hwd
      rcases hty with tr | ⟨tr, tc⟩ | ⟨tr, tc, ts⟩ | ⟨tr, tc, ts, ta⟩
      · have tc : (y.toList == [99, 104, 111, 105, 99, 101]) = false := by rw [beq_iff_eq.1 tr]; decide
        obtain ⟨HSx, hst⟩ : ∃ _ : True, Id.schemaF f (Id.record false (r', false)).2 { (⟨xn, xr, xv, xg⟩ : Id.Sch) with records := xr ++ [(Id.record false (r', false)).1] } = R := ⟨trivial, by rw [← HO.out, HST.out, if_pos (beq_iff_eq.1 tr)]⟩
        obtain ⟨⟨fs, s6⟩, H6⟩ : ∃ R, Hid (Id.within Id.field s5 = R) := ⟨_, Lib.hid rfl⟩
        have HE : Hid (Id.schemaF f s6 { (⟨xn, xr, xv, xg⟩ : Id.Sch) with records := xr ++ [⟨n5, false, fs⟩] } = R) := Lib.hid (by rw [← hst]; simp only [Id.record, H5.out, H6.out])
        have hl5 := Id.name_le (r', false)
        rw [H5.out] at hl5
        have hl6 := Id.within_le Id.field_le s5
        rw [H6.out] at hl6
        simp only at hl5 hl6
        clear hst HSx
        go_wp2_with fail
        refine (HC.out.name _ HA.out.bel (j + 1) _ hi4).mono ?_
        rintro e wq ⟨i5, rfl, hi5, hw⟩
        obtain rfl := hw.symm
        rw [H5.out] at hi5 ⊢
        simp only at hi5 ⊢
        go_wp2_with fail
        have hg := Bk.new wr 54 #[.string n5, .bool false, .slice none 0 0]
        have HBl := Lib.hid ((Below.refl wr.heap.size wr).alloc (Nat.le_refl _) (.cells #[.string n5, .bool false, .slice none 0 0] 54))
        generalize (wr.alloc (.cells #[.string n5, .bool false, .slice none 0 0] 54)) = W1 at *
        have hz1 := HBl.out.size
        refine (rfields_any w A l n c HC.out i5 _ hi5 _ (HA.out.bel.trans (HBl.out.mono hbz))).mono ?_
        rintro e W3 ⟨v6, i6, x6, rfl, hi6, hb6, hr6, hx6⟩
        rw [H6.out] at hi6 hx6
        simp only at hi6 hx6
        obtain ⟨A6, n6, c6, rfl⟩ := ERow.is hr6
        have HR6 : Hid (Id.FldsR W3 (some w.heap.size) (.slice A6 n6 c6) x6) := Lib.hid (ERow.mono hr6 (fun _ _ h => h.weak (fun b' e => ⟨_, rfl, by injection e with e; omega⟩)) (fun cs x he => by obtain ⟨u, e, hs⟩ := he; exact ⟨u, e, ERow.mono hs (fun _ _ h => h.weak (fun b' e => ⟨_, rfl, by injection e with e; omega⟩)) (fun _ _ h => h)⟩))
        replace hg := hg.below hb6 hg.lt
        replace HBl := Lib.hid (HBl.out.trans (hb6.mono hz1))
        have HX6 := Lib.hid hx6
        clear hb6 hr6 hz1 hx6
        have HQ3 := Lib.hid (hq.below HBl.out hq.lt)
        have hqn : ¬ w.heap.size + 1 = wr.heap.size := by have := hq.lt; omega
        have hqn2 : ¬ wr.heap.size = w.heap.size + 1 := by omega
        obtain ⟨⟨f0, f1, f2⟩, g0, g1, g2⟩ := hg.k3
        obtain ⟨⟨q0, q1, q2, q3⟩, q4, q5, q6, q7⟩ := HQ3.out.k4
        replace HR6 : Hid (Id.FldsR (W3.setCell ⟨wr.heap.size, 2, none⟩ (.slice A6 n6 c6)) (some w.heap.size) (.slice A6 n6 c6) x6) := Lib.hid (ERow.kp HR6.out ((Only.set hg 2 (.slice A6 n6 c6)).kp w.heap.size (T := [64, 78]) (by decide)) (Nat.le_refl _) (by decide) (Id.FldE.kp ((Only.set hg 2 (.slice A6 n6 c6)).kp w.heap.size (T := [64, 78]) (by decide)) (Nat.le_refl _) (by decide)))
        have HB4 := Lib.hid (HBl.out.setCell (p := ⟨wr.heap.size, 2, none⟩) (Nat.le_refl _) (.slice A6 n6 c6))
        have HQ4 := Lib.hid (HQ3.out.far (p := ⟨wr.heap.size, 2, none⟩) hqn (.slice A6 n6 c6))
        have hsz := HB4.out.size
        have HROW0 := Lib.hid (ERow.below HR1.out HB4.out (Id.RecE.below HB4.out))
        have HRA := Lib.hid (ERow.below HR1.out HB4.out (Id.RecE.below HB4.out))
        have HRB := Lib.hid (ERow.below HR2.out HB4.out (Id.SvcE.below HB4.out))
        have HRC := Lib.hid (ERow.below HR3.out HB4.out (Id.SagE.below HB4.out))
        go_wp2_with (at_builtin; go_must (refine wpList_append_el rfl _ _ _ rfl w.heap.size 54 _ 3 48 Tryd.underlying22 Id.info_rec rfl (by decide) (Id.RecE (some w.heap.size)) (.slice A1 n1 c1) xr rfl HROW0.out [.string n5, .bool false, .slice A6 n6 c6] rfl _ rfl (by simp) (by simp [Value.oneCell']) (by simp only [maxLen]; omega) (by omega) (by omega) ?_); intro v9 w9 hrow9 hb9 ho9; have hrr := hrow9 ⟨n5, false, x6⟩ (Id.RecE.kp (T := [64, 78]) (ho9.kp w.heap.size (by decide)) (Nat.le_refl _) (by decide) (by decide)) ⟨_, rfl, ERow.kp HR6.out (ho9.kp w.heap.size (T := [64, 78]) (by decide)) (Nat.le_refl _) (by decide) (Id.FldE.kp (ho9.kp w.heap.size (T := [64, 78]) (by decide)) (Nat.le_refl _) (by decide))⟩; obtain ⟨A9, n9, c9, rfl⟩ := ERow.is hrr; have HROW := Lib.hid hrr; have HB9 := Lib.hid hb9; have HO9 := Lib.hid ho9; have HQ9 := Lib.hid (ho9.bk HQ4.out (by decide)); clear hrow9 hb9 ho9 hrr q0 q1 q2 q3 q4 q5 q6 q7; have q8 : w9.cell? ⟨w.heap.size + 1, 1, none⟩ = some (.slice A1 n1 c1) := HQ9.out.cell 1; have q9 := HQ9.out.frozen 1)
        have HKX := HO9.out.kp w.heap.size (T := [58, 88, 62, 66]) (by decide)
        have hresn : ¬ w.heap.size = w.heap.size + 1 := by omega
        have HRES := Lib.hid ((HO9.out.bk (hres.below HB4.out hres.lt) (by decide)).far (p := ⟨w.heap.size + 1, 1, none⟩) hresn (.slice A9 n9 c9))
        go_roundg f
        case rel => exact ⟨i6, s6, { (⟨xn, xr, xv, xg⟩ : Id.Sch) with records := xr ++ [⟨n5, false, x6⟩] }, rfl, Lib.hid ⟨hi6, fun _ => by omega, by omega, fun _ => by simp; omega, ((HA.out.bel.trans (HB4.out.mono hbz)).trans HB9.out).setCell (by simp) _, HRES.out, Id.SchB.rec (x := ⟨xn, xr, xv, xg⟩) (y := ⟨n5, false, x6⟩) HQ9.out HROW.out (Id.SvcsR.kp HRB.out HKX (Nat.le_refl _) (by decide) (by decide)) (Id.SagsR.kp HRC.out HKX (Nat.le_refl _) (by decide) (by decide)), fun hb => by rw [HX6.out hb]; exact HE.out, fun hb => by rw [← HE.out, Id.schemaF_bad _ _ hb]⟩⟩
        case measure => omega
      · obtain ⟨HSx, hst⟩ : ∃ _ : True, Id.schemaF f (Id.record true (r', false)).2 { (⟨xn, xr, xv, xg⟩ : Id.Sch) with records := xr ++ [(Id.record true (r', false)).1] } = R := ⟨trivial, by rw [← HO.out, HST.out, if_neg (beq_eq_false_iff_ne.1 tr), if_pos (beq_iff_eq.1 tc)]⟩
        obtain ⟨⟨fs, s6⟩, H6⟩ : ∃ R, Hid (Id.within Id.field s5 = R) := ⟨_, Lib.hid rfl⟩
        have HE : Hid (Id.schemaF f s6 { (⟨xn, xr, xv, xg⟩ : Id.Sch) with records := xr ++ [⟨n5, true, fs⟩] } = R) := Lib.hid (by rw [← hst]; simp only [Id.record, H5.out, H6.out])
        have hl5 := Id.name_le (r', false)
        rw [H5.out] at hl5
        have hl6 := Id.within_le Id.field_le s5
        rw [H6.out] at hl6
        simp only at hl5 hl6
        clear hst HSx
        go_wp2_with fail
        refine (HC.out.name _ HA.out.bel (j + 1) _ hi4).mono ?_
        rintro e wq ⟨i5, rfl, hi5, hw⟩
        obtain rfl := hw.symm
        rw [H5.out] at hi5 ⊢
        simp only at hi5 ⊢
        go_wp2_with fail
        have hg := Bk.new wr 54 #[.string n5, .bool true, .slice none 0 0]
        have HBl := Lib.hid ((Below.refl wr.heap.size wr).alloc (Nat.le_refl _) (.cells #[.string n5, .bool true, .slice none 0 0] 54))
        generalize (wr.alloc (.cells #[.string n5, .bool true, .slice none 0 0] 54)) = W1 at *
        have hz1 := HBl.out.size
        refine (rfields_any w A l n c HC.out i5 _ hi5 _ (HA.out.bel.trans (HBl.out.mono hbz))).mono ?_
        rintro e W3 ⟨v6, i6, x6, rfl, hi6, hb6, hr6, hx6⟩
        rw [H6.out] at hi6 hx6
        simp only at hi6 hx6
        obtain ⟨A6, n6, c6, rfl⟩ := ERow.is hr6
        have HR6 : Hid (Id.FldsR W3 (some w.heap.size) (.slice A6 n6 c6) x6) := Lib.hid (ERow.mono hr6 (fun _ _ h => h.weak (fun b' e => ⟨_, rfl, by injection e with e; omega⟩)) (fun cs x he => by obtain ⟨u, e, hs⟩ := he; exact ⟨u, e, ERow.mono hs (fun _ _ h => h.weak (fun b' e => ⟨_, rfl, by injection e with e; omega⟩)) (fun _ _ h => h)⟩))
        replace hg := hg.below hb6 hg.lt
        replace HBl := Lib.hid (HBl.out.trans (hb6.mono hz1))
        have HX6 := Lib.hid hx6
        clear hb6 hr6 hz1 hx6
        have HQ3 := Lib.hid (hq.below HBl.out hq.lt)
        have hqn : ¬ w.heap.size + 1 = wr.heap.size := by have := hq.lt; omega
        have hqn2 : ¬ wr.heap.size = w.heap.size + 1 := by omega
        obtain ⟨⟨f0, f1, f2⟩, g0, g1, g2⟩ := hg.k3
        obtain ⟨⟨q0, q1, q2, q3⟩, q4, q5, q6, q7⟩ := HQ3.out.k4
        replace HR6 : Hid (Id.FldsR (W3.setCell ⟨wr.heap.size, 2, none⟩ (.slice A6 n6 c6)) (some w.heap.size) (.slice A6 n6 c6) x6) := Lib.hid (ERow.kp HR6.out ((Only.set hg 2 (.slice A6 n6 c6)).kp w.heap.size (T := [64, 78]) (by decide)) (Nat.le_refl _) (by decide) (Id.FldE.kp ((Only.set hg 2 (.slice A6 n6 c6)).kp w.heap.size (T := [64, 78]) (by decide)) (Nat.le_refl _) (by decide)))
        have HB4 := Lib.hid (HBl.out.setCell (p := ⟨wr.heap.size, 2, none⟩) (Nat.le_refl _) (.slice A6 n6 c6))
        have HQ4 := Lib.hid (HQ3.out.far (p := ⟨wr.heap.size, 2, none⟩) hqn (.slice A6 n6 c6))
        have hsz := HB4.out.size
        have HROW0 := Lib.hid (ERow.below HR1.out HB4.out (Id.RecE.below HB4.out))
        have HRA := Lib.hid (ERow.below HR1.out HB4.out (Id.RecE.below HB4.out))
        have HRB := Lib.hid (ERow.below HR2.out HB4.out (Id.SvcE.below HB4.out))
        have HRC := Lib.hid (ERow.below HR3.out HB4.out (Id.SagE.below HB4.out))
        go_wp2_with (at_builtin; go_must (refine wpList_append_el rfl _ _ _ rfl w.heap.size 54 _ 3 48 Tryd.underlying22 Id.info_rec rfl (by decide) (Id.RecE (some w.heap.size)) (.slice A1 n1 c1) xr rfl HROW0.out [.string n5, .bool true, .slice A6 n6 c6] rfl _ rfl (by simp) (by simp [Value.oneCell']) (by simp only [maxLen]; omega) (by omega) (by omega) ?_); intro v9 w9 hrow9 hb9 ho9; have hrr := hrow9 ⟨n5, true, x6⟩ (Id.RecE.kp (T := [64, 78]) (ho9.kp w.heap.size (by decide)) (Nat.le_refl _) (by decide) (by decide)) ⟨_, rfl, ERow.kp HR6.out (ho9.kp w.heap.size (T := [64, 78]) (by decide)) (Nat.le_refl _) (by decide) (Id.FldE.kp (ho9.kp w.heap.size (T := [64, 78]) (by decide)) (Nat.le_refl _) (by decide))⟩; obtain ⟨A9, n9, c9, rfl⟩ := ERow.is hrr; have HROW := Lib.hid hrr; have HB9 := Lib.hid hb9; have HO9 := Lib.hid ho9; have HQ9 := Lib.hid (ho9.bk HQ4.out (by decide)); clear hrow9 hb9 ho9 hrr q0 q1 q2 q3 q4 q5 q6 q7; have q8 : w9.cell? ⟨w.heap.size + 1, 1, none⟩ = some (.slice A1 n1 c1) := HQ9.out.cell 1; have q9 := HQ9.out.frozen 1)
        have HKX := HO9.out.kp w.heap.size (T := [58, 88, 62, 66]) (by decide)
        have hresn : ¬ w.heap.size = w.heap.size + 1 := by omega
        have HRES := Lib.hid ((HO9.out.bk (hres.below HB4.out hres.lt) (by decide)).far (p := ⟨w.heap.size + 1, 1, none⟩) hresn (.slice A9 n9 c9))
        go_roundg f
        case rel => exact ⟨i6, s6, { (⟨xn, xr, xv, xg⟩ : Id.Sch) with records := xr ++ [⟨n5, true, x6⟩] }, rfl, Lib.hid ⟨hi6, fun _ => by omega, by omega, fun _ => by simp; omega, ((HA.out.bel.trans (HB4.out.mono hbz)).trans HB9.out).setCell (by simp) _, HRES.out, Id.SchB.rec (x := ⟨xn, xr, xv, xg⟩) (y := ⟨n5, true, x6⟩) HQ9.out HROW.out (Id.SvcsR.kp HRB.out HKX (Nat.le_refl _) (by decide) (by decide)) (Id.SagsR.kp HRC.out HKX (Nat.le_refl _) (by decide) (by decide)), fun hb => by rw [HX6.out hb]; exact HE.out, fun hb => by rw [← HE.out, Id.schemaF_bad _ _ hb]⟩⟩
        case measure => omega
      · obtain ⟨HSx, hst⟩ : ∃ _ : True, Id.schemaF f (Id.service (r', false)).2 { (⟨xn, xr, xv, xg⟩ : Id.Sch) with services := xv ++ [(Id.service (r', false)).1] } = R := ⟨trivial, by rw [← HO.out, HST.out, if_neg (beq_eq_false_iff_ne.1 tr), if_neg (beq_eq_false_iff_ne.1 tc), if_pos (beq_iff_eq.1 ts)]⟩
        obtain ⟨⟨fs, s6⟩, H6⟩ : ∃ R, Hid (Id.within Id.method s5 = R) := ⟨_, Lib.hid rfl⟩
        have HE : Hid (Id.schemaF f s6 { (⟨xn, xr, xv, xg⟩ : Id.Sch) with services := xv ++ [⟨n5, fs⟩] } = R) := Lib.hid (by rw [← hst]; simp only [Id.service, H5.out, H6.out])
        have hl5 := Id.name_le (r', false)
        rw [H5.out] at hl5
        have hl6 := Id.within_le Id.method_le s5
        rw [H6.out] at hl6
        simp only at hl5 hl6
        clear hst HSx
        go_wp2_with fail
        refine (HC.out.name _ HA.out.bel (j + 1) _ hi4).mono ?_
        rintro e wq ⟨i5, rfl, hi5, hw⟩
        obtain rfl := hw.symm
        rw [H5.out] at hi5 ⊢
        simp only at hi5 ⊢
        go_wp2_with fail
        have hg := Bk.new wr 58 #[.string n5, .slice none 0 0]
        have HBl := Lib.hid ((Below.refl wr.heap.size wr).alloc (Nat.le_refl _) (.cells #[.string n5, .slice none 0 0] 58))
        generalize (wr.alloc (.cells #[.string n5, .slice none 0 0] 58)) = W1 at *
        have hz1 := HBl.out.size
        refine (rmethods_any w A l n c HC.out i5 _ hi5 _ (HA.out.bel.trans (HBl.out.mono hbz))).mono ?_
        rintro e W3 ⟨v6, i6, x6, rfl, hi6, hb6, hr6, hx6⟩
        rw [H6.out] at hi6 hx6
        simp only at hi6 hx6
        obtain ⟨A6, n6, c6, rfl⟩ := ERow.is hr6
        have HR6 : Hid (ERow W3 (some w.heap.size) 88 5 Id.MthE (.slice A6 n6 c6) x6) := Lib.hid (ERow.mono hr6 (fun _ _ h => h.weak (fun b' e => ⟨_, rfl, by injection e with e; omega⟩)) (fun _ _ h => h))
        replace hg := hg.below hb6 hg.lt
        replace HBl := Lib.hid (HBl.out.trans (hb6.mono hz1))
        have HX6 := Lib.hid hx6
        clear hb6 hr6 hz1 hx6
        have HQ3 := Lib.hid (hq.below HBl.out hq.lt)
        have hqn : ¬ w.heap.size + 1 = wr.heap.size := by have := hq.lt; omega
        have hqn2 : ¬ wr.heap.size = w.heap.size + 1 := by omega
        obtain ⟨⟨f0, f1⟩, g0, g1⟩ := hg.k2
        obtain ⟨⟨q0, q1, q2, q3⟩, q4, q5, q6, q7⟩ := HQ3.out.k4
        replace HR6 : Hid (ERow (W3.setCell ⟨wr.heap.size, 1, none⟩ (.slice A6 n6 c6)) (some w.heap.size) 88 5 Id.MthE (.slice A6 n6 c6) x6) := Lib.hid (ERow.kp HR6.out ((Only.set hg 1 (.slice A6 n6 c6)).kp w.heap.size (T := [88]) (by decide)) (Nat.le_refl _) (by decide) Id.MthE.kp)
        have HB4 := Lib.hid (HBl.out.setCell (p := ⟨wr.heap.size, 1, none⟩) (Nat.le_refl _) (.slice A6 n6 c6))
        have HQ4 := Lib.hid (HQ3.out.far (p := ⟨wr.heap.size, 1, none⟩) hqn (.slice A6 n6 c6))
        have hsz := HB4.out.size
        have HROW0 := Lib.hid (ERow.below HR2.out HB4.out (Id.SvcE.below HB4.out))
        have HRA := Lib.hid (ERow.below HR1.out HB4.out (Id.RecE.below HB4.out))
        have HRB := Lib.hid (ERow.below HR2.out HB4.out (Id.SvcE.below HB4.out))
        have HRC := Lib.hid (ERow.below HR3.out HB4.out (Id.SagE.below HB4.out))
        go_wp2_with (at_builtin; go_must (refine wpList_append_el rfl _ _ _ rfl w.heap.size 58 _ 2 40 Tryd.underlying23 Id.info_svc rfl (by decide) (Id.SvcE (some w.heap.size)) (.slice A2 n2 c2) xv rfl HROW0.out [.string n5, .slice A6 n6 c6] rfl _ rfl (by simp) (by simp [Value.oneCell']) (by simp only [maxLen]; omega) (by omega) (by omega) ?_); intro v9 w9 hrow9 hb9 ho9; have hrr := hrow9 ⟨n5, x6⟩ (Id.SvcE.kp (T := [88]) (ho9.kp w.heap.size (by decide)) (Nat.le_refl _) (by decide)) ⟨_, rfl, ERow.kp HR6.out (ho9.kp w.heap.size (T := [88]) (by decide)) (Nat.le_refl _) (by decide) Id.MthE.kp⟩; obtain ⟨A9, n9, c9, rfl⟩ := ERow.is hrr; have HROW := Lib.hid hrr; have HB9 := Lib.hid hb9; have HO9 := Lib.hid ho9; have HQ9 := Lib.hid (ho9.bk HQ4.out (by decide)); clear hrow9 hb9 ho9 hrr q0 q1 q2 q3 q4 q5 q6 q7; have q8 : w9.cell? ⟨w.heap.size + 1, 2, none⟩ = some (.slice A2 n2 c2) := HQ9.out.cell 2; have q9 := HQ9.out.frozen 2)
        have HKX := HO9.out.kp w.heap.size (T := [54, 64, 78, 62, 66]) (by decide)
        have hresn : ¬ w.heap.size = w.heap.size + 1 := by omega
        have HRES := Lib.hid ((HO9.out.bk (hres.below HB4.out hres.lt) (by decide)).far (p := ⟨w.heap.size + 1, 2, none⟩) hresn (.slice A9 n9 c9))
        go_roundg f
        case rel => exact ⟨i6, s6, { (⟨xn, xr, xv, xg⟩ : Id.Sch) with services := xv ++ [⟨n5, x6⟩] }, rfl, Lib.hid ⟨hi6, fun _ => by omega, by omega, fun _ => by simp; omega, ((HA.out.bel.trans (HB4.out.mono hbz)).trans HB9.out).setCell (by simp) _, HRES.out, Id.SchB.svc (x := ⟨xn, xr, xv, xg⟩) (y := ⟨n5, x6⟩) HQ9.out (Id.RecsR.kp HRA.out HKX (Nat.le_refl _) (by decide) (by decide) (by decide)) HROW.out (Id.SagsR.kp HRC.out HKX (Nat.le_refl _) (by decide) (by decide)), fun hb => by rw [HX6.out hb]; exact HE.out, fun hb => by rw [← HE.out, Id.schemaF_bad _ _ hb]⟩⟩
        case measure => omega
      · obtain ⟨HSx, hst⟩ : ∃ _ : True, Id.schemaF f (Id.saga (r', false)).2 { (⟨xn, xr, xv, xg⟩ : Id.Sch) with sagas := xg ++ [(Id.saga (r', false)).1] } = R := ⟨trivial, by rw [← HO.out, HST.out, if_neg (beq_eq_false_iff_ne.1 tr), if_neg (beq_eq_false_iff_ne.1 tc), if_neg (beq_eq_false_iff_ne.1 ts), if_pos (beq_iff_eq.1 ta)]⟩
        obtain ⟨⟨n7, s7⟩, H7⟩ : ∃ R, Hid (Id.arg s5 = R) := ⟨_, Lib.hid rfl⟩
        obtain ⟨⟨fs, s6⟩, H6⟩ : ∃ R, Hid (Id.within Id.step s7 = R) := ⟨_, Lib.hid rfl⟩
        have HE : Hid (Id.schemaF f s6 { (⟨xn, xr, xv, xg⟩ : Id.Sch) with sagas := xg ++ [⟨n5, n7, fs⟩] } = R) := Lib.hid (by rw [← hst]; simp only [Id.saga, H5.out, H7.out, H6.out])
        have hl5 := Id.name_le (r', false)
        rw [H5.out] at hl5
        have hl7 := Id.arg_le s5
        rw [H7.out] at hl7
        have hl6 := Id.within_le Id.step_le s7
        rw [H6.out] at hl6
        simp only at hl5 hl6 hl7
        clear hst HSx
        go_wp2_with fail
        refine (HC.out.name _ HA.out.bel (j + 1) _ hi4).mono ?_
        rintro e wq ⟨i5, rfl, hi5, hw⟩
        obtain rfl := hw.symm
        rw [H5.out] at hi5 ⊢
        simp only at hi5 ⊢
        go_wp2_with fail
        have hg := Bk.new wr 62 #[.string n5, .string ⟨#[]⟩, .slice none 0 0]
        have HBl := Lib.hid ((Below.refl wr.heap.size wr).alloc (Nat.le_refl _) (.cells #[.string n5, .string ⟨#[]⟩, .slice none 0 0] 62))
        generalize (wr.alloc (.cells #[.string n5, .string ⟨#[]⟩, .slice none 0 0] 62)) = W1 at *
        refine (rbracket_any w A l n c HC.out i5 _ hi5 _ (HA.out.bel.trans (HBl.out.mono hbz))).mono ?_
        rintro e wq ⟨i7, rfl, hi7, hw⟩
        obtain rfl := hw.symm
        rw [H7.out] at hi7 ⊢
        simp only at hi7 ⊢
        obtain ⟨⟨f0, f1, f2⟩, g0, g1, g2⟩ := hg.k3
        go_wp2_with fail
        clear f0 f1 f2 g0 g1 g2
        replace HBl := Lib.hid (HBl.out.setCell (p := ⟨wr.heap.size, 1, none⟩) (Nat.le_refl _) (.string n7))
        replace hg : Bk (W1.setCell ⟨wr.heap.size, 1, none⟩ (.string n7)) wr.heap.size 62 #[.string n5, .string n7, .slice none 0 0] := hg.set_ 1 (.string n7)
        have hz1e : (W1.setCell ⟨wr.heap.size, 1, none⟩ (.string n7)).heap.size = W1.heap.size := by simp
        generalize (W1.setCell ⟨wr.heap.size, 1, none⟩ (.string n7)) = W2 at *
        clear hz1e
        have hz1 := HBl.out.size
        refine (rsteps_any w A l n c HC.out i7 _ hi7 _ (HA.out.bel.trans (HBl.out.mono hbz))).mono ?_
        rintro e W3 ⟨v6, i6, x6, rfl, hi6, hb6, hr6, hx6⟩
        rw [H6.out] at hi6 hx6
        simp only at hi6 hx6
        obtain ⟨A6, n6, c6, rfl⟩ := ERow.is hr6
        have HR6 : Hid (ERow W3 (some w.heap.size) 66 3 Id.StpE (.slice A6 n6 c6) x6) := Lib.hid (ERow.mono hr6 (fun _ _ h => h.weak (fun b' e => ⟨_, rfl, by injection e with e; omega⟩)) (fun _ _ h => h))
        replace hg := hg.below hb6 hg.lt
        replace HBl := Lib.hid (HBl.out.trans (hb6.mono hz1))
        have HX6 := Lib.hid hx6
        clear hb6 hr6 hz1 hx6
        have HQ3 := Lib.hid (hq.below HBl.out hq.lt)
        have hqn : ¬ w.heap.size + 1 = wr.heap.size := by have := hq.lt; omega
        have hqn2 : ¬ wr.heap.size = w.heap.size + 1 := by omega
        obtain ⟨⟨f0, f1, f2⟩, g0, g1, g2⟩ := hg.k3
        obtain ⟨⟨q0, q1, q2, q3⟩, q4, q5, q6, q7⟩ := HQ3.out.k4
        replace HR6 : Hid (ERow (W3.setCell ⟨wr.heap.size, 2, none⟩ (.slice A6 n6 c6)) (some w.heap.size) 66 3 Id.StpE (.slice A6 n6 c6) x6) := Lib.hid (ERow.kp HR6.out ((Only.set hg 2 (.slice A6 n6 c6)).kp w.heap.size (T := [66]) (by decide)) (Nat.le_refl _) (by decide) Id.StpE.kp)
        have HB4 := Lib.hid (HBl.out.setCell (p := ⟨wr.heap.size, 2, none⟩) (Nat.le_refl _) (.slice A6 n6 c6))
        have HQ4 := Lib.hid (HQ3.out.far (p := ⟨wr.heap.size, 2, none⟩) hqn (.slice A6 n6 c6))
        have hsz := HB4.out.size
        have HROW0 := Lib.hid (ERow.below HR3.out HB4.out (Id.SagE.below HB4.out))
        have HRA := Lib.hid (ERow.below HR1.out HB4.out (Id.RecE.below HB4.out))
        have HRB := Lib.hid (ERow.below HR2.out HB4.out (Id.SvcE.below HB4.out))
        have HRC := Lib.hid (ERow.below HR3.out HB4.out (Id.SagE.below HB4.out))
        go_wp2_with (at_builtin; go_must (refine wpList_append_el rfl _ _ _ rfl w.heap.size 62 _ 3 56 Tryd.underlying24 Id.info_sag rfl (by decide) (Id.SagE (some w.heap.size)) (.slice A3 n3 c3) xg rfl HROW0.out [.string n5, .string n7, .slice A6 n6 c6] rfl _ rfl (by simp) (by simp [Value.oneCell']) (by simp only [maxLen]; omega) (by omega) (by omega) ?_); intro v9 w9 hrow9 hb9 ho9; have hrr := hrow9 ⟨n5, n7, x6⟩ (Id.SagE.kp (T := [66]) (ho9.kp w.heap.size (by decide)) (Nat.le_refl _) (by decide)) ⟨_, rfl, ERow.kp HR6.out (ho9.kp w.heap.size (T := [66]) (by decide)) (Nat.le_refl _) (by decide) Id.StpE.kp⟩; obtain ⟨A9, n9, c9, rfl⟩ := ERow.is hrr; have HROW := Lib.hid hrr; have HB9 := Lib.hid hb9; have HO9 := Lib.hid ho9; have HQ9 := Lib.hid (ho9.bk HQ4.out (by decide)); clear hrow9 hb9 ho9 hrr q0 q1 q2 q3 q4 q5 q6 q7; have q8 : w9.cell? ⟨w.heap.size + 1, 3, none⟩ = some (.slice A3 n3 c3) := HQ9.out.cell 3; have q9 := HQ9.out.frozen 3)
        have HKX := HO9.out.kp w.heap.size (T := [54, 64, 78, 58, 88]) (by decide)
        have hresn : ¬ w.heap.size = w.heap.size + 1 := by omega
        have HRES := Lib.hid ((HO9.out.bk (hres.below HB4.out hres.lt) (by decide)).far (p := ⟨w.heap.size + 1, 3, none⟩) hresn (.slice A9 n9 c9))
        go_roundg f
        case rel => exact ⟨i6, s6, { (⟨xn, xr, xv, xg⟩ : Id.Sch) with sagas := xg ++ [⟨n5, n7, x6⟩] }, rfl, Lib.hid ⟨hi6, fun _ => by omega, by omega, fun _ => by simp; omega, ((HA.out.bel.trans (HB4.out.mono hbz)).trans HB9.out).setCell (by simp) _, HRES.out, Id.SchB.sag (x := ⟨xn, xr, xv, xg⟩) (y := ⟨n5, n7, x6⟩) HQ9.out (Id.RecsR.kp HRA.out HKX (Nat.le_refl _) (by decide) (by decide) (by decide)) (Id.SvcsR.kp HRB.out HKX (Nat.le_refl _) (by decide) (by decide)) HROW.out, fun hb => by rw [HX6.out hb]; exact HE.out, fun hb => by rw [← HE.out, Id.schemaF_bad _ _ hb]⟩⟩
        case measure => omega
end Go.Proofs.YtoomlpalkinipaaDoor
