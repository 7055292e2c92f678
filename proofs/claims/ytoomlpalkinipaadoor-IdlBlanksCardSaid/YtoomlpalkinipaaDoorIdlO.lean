/- The parser: whole, Parse, Type. -/
import Derived.Test.YtoomlpalkinipaaDoorIdlN
import Derived.Test.YtoomlpalkinipaaDoorTokAllP
set_option linter.unusedVariables false
set_option linter.unusedSimpArgs false
namespace Go.Proofs.YtoomlpalkinipaaDoor
open Go.RowKit
theorem Tk.scan_len (d : Nat) (s : ByteArray) : ∀ (f k : Nat) (acc : List Tk.Tok), k ≤ s.size → acc.length ≤ k → (Tk.scan d s f k acc).1.length ≤ s.size
  | 0, k, acc, hk, ha => by unfold Tk.scan; exact Nat.le_trans ha hk
  | f + 1, k, acc, hk, ha => by
    unfold Tk.scan
    split
    · rename_i hlt
      split
      · simp
      · rename_i he
        have hok := Tk.oneAt_ok (d := d) (s := s) (k := k) hlt (by simpa using he)
        refine Tk.scan_len d s f _ _ (Tk.gapEnd_le false hok.2) ?_
        rw [List.length_append, List.length_singleton]
        have := Tk.gapEnd_ge false s (k + (Tk.oneAt d s k).1.text.size)
        omega
    · exact Nat.le_trans ha hk
theorem Tk.all_len (s : ByteArray) : (Tk.all s).1.length ≤ 65536 := by
  unfold Tk.all
  split
  · simp
  · rename_i h
    have := Tk.scan_len 3 s (s.size + 1) (Tk.gapEnd false s 0) [] (Tk.gapEnd_le false (by omega)) (by simp)
    omega
theorem Id.Ps.of_own {w : World} {base : Nat} {v : Value} {ls : List Tk.Tok} (h : w.ownsRow base 37 4 v ls.length (Tk.flat ls)) : Id.Ps (w.alloc (.cells #[v, .bool false] 80)) w.heap.size (ls, false) := by
  obtain ⟨A, c, hv, hr, hl⟩ := Tk.row_reads h
  have hbl := (Below.refl w.heap.size w).alloc (Nat.le_refl _) (.cells #[v, .bool false] 80)
  have hbk := Bk.new w 80 #[v, .bool false]
  subst hv
  have key : ls.length ≤ c ∧ c ≤ 9223372036854775807 ∧ (∀ ad, A = some ad → ad.block < w.heap.size) ∧ (∀ g off, A = some ⟨g, off, none⟩ → Id.Typed w g) := by
    rcases h.2 with ⟨e, _⟩ | ⟨g, cap, cur, e, hb, hg, hn, hc, _⟩
    · injection e with e1 e2 e3
      subst e1
      exact ⟨by omega, by omega, (fun ad e => by cases e), (fun g off e => by cases e)⟩
    · injection e with e1 e2 e3
      subst e1 e3
      unfold maxLen at hc
      exact ⟨hn, by omega, (fun ad e => by injection e with e; subst e; exact (Array.getElem?_eq_some_iff.1 hg).1), (fun g' off e => by injection e with e; injection e with e1 _; subst e1; exact ⟨_, _, hg⟩)⟩
  exact ⟨⟨A, c, hbk, hr.below hbl, key.1, key.2.1, fun ad e => by have := key.2.2.1 ad e; omega⟩, Id.typ_of hbk (fun g off e => (key.2.2.2 g off e).below hbl)⟩
theorem Tk.ReadT.only {w w' : World} {A : Option Addr} {ls : List Tk.Tok} {e : TypeId} (h : Tk.ReadT w A ls) (ho : Only e w w') (ht : ∀ g off, A = some ⟨g, off, none⟩ → Id.Typed w g) (he : 37 ≠ e) : Tk.ReadT w' A ls := fun h0 => by
  obtain ⟨g, off, e1, hc⟩ := h h0
  obtain ⟨cs, fr, hh⟩ := ht g off e1
  have kc : ∀ o, w'.cell? ⟨g, o, none⟩ = w.cell? ⟨g, o, none⟩ := fun o => World.cell?_of_block (a := ⟨g, o, none⟩) ((ho.typed hh he).trans hh.symm)
  exact ⟨g, off, e1, fun j hj => by rw [kc, kc, kc, kc]; exact hc j hj⟩
theorem Id.Typed.ne {w : World} {g b : Nat} {t : TypeId} {cs : Array Value} (h : Id.Typed w g) (hb : Bk w b t cs) (ht : 37 ≠ t) : ¬ g = b := by
  rintro rfl
  obtain ⟨cs', fr, hh⟩ := h
  unfold Bk at hb
  rw [hh] at hb
  injection hb with hb
  injection hb with _ h2
  exact ht h2
namespace Id
def whole {α : Type} (zero : α) (read : St → α × St) (s : ByteArray) : α × Nat × Nat :=
  if (Tk.all s).2.2 ≠ 0 then (zero, (Tk.all s).2.1, (Tk.all s).2.2) else
  match (read ((Tk.all s).1, false)).2.1 with
  | [] => if (read ((Tk.all s).1, false)).2.2 then (zero, s.size, 120) else ((read ((Tk.all s).1, false)).1, 0, 0)
  | t :: _ => (zero, t.at_, 120)
def Sch.zero : Sch := ⟨⟨#[]⟩, [], [], []⟩
def parse (s : ByteArray) : Sch × Nat × Nat := whole Sch.zero schema s
def type (s : ByteArray) : List Srt × Nat × Nat := whole [] sorts s
/-- A schema as it is handed on. -/
def SchV (w : World) (B : Option Nat) (v : Value) (x : Sch) : Prop := ∃ A1 n1 c1 A2 n2 c2 A3 n3 c3, v = .agg #[.string x.name, .slice A1 n1 c1, .slice A2 n2 c2, .slice A3 n3 c3] ∧ RecsR w B (.slice A1 n1 c1) x.records ∧ SvcsR w B (.slice A2 n2 c2) x.services ∧ SagsR w B (.slice A3 n3 c3) x.sagas
theorem FldE.below {B : Option Nat} {w w' : World} (h : Below w.heap.size w w') (cs : List Value) (x : Fld) (he : FldE B w cs x) : FldE B w' cs x := by
  obtain ⟨u, e, hs⟩ := he
  exact ⟨u, e, ERow.below hs h (fun _ _ h => h)⟩
theorem RecE.below {B : Option Nat} {w w' : World} (h : Below w.heap.size w w') (cs : List Value) (x : Rec) (he : RecE B w cs x) : RecE B w' cs x := by
  obtain ⟨u, e, hs⟩ := he
  exact ⟨u, e, ERow.below hs h (FldE.below h)⟩
theorem SvcE.below {B : Option Nat} {w w' : World} (h : Below w.heap.size w w') (cs : List Value) (x : Svc) (he : SvcE B w cs x) : SvcE B w' cs x := by
  obtain ⟨u, e, hs⟩ := he
  exact ⟨u, e, ERow.below hs h (fun _ _ h => h)⟩
theorem SagE.below {B : Option Nat} {w w' : World} (h : Below w.heap.size w w') (cs : List Value) (x : Sag) (he : SagE B w cs x) : SagE B w' cs x := by
  obtain ⟨u, e, hs⟩ := he
  exact ⟨u, e, ERow.below hs h (fun _ _ h => h)⟩
theorem SchV.below {B : Option Nat} {w w' : World} {v : Value} {x : Sch} (hb : Below w.heap.size w w') (h : SchV w B v x) : SchV w' B v x := by
  obtain ⟨A1, n1, c1, A2, n2, c2, A3, n3, c3, e, h1, h2, h3⟩ := h
  exact ⟨A1, n1, c1, A2, n2, c2, A3, n3, c3, e, ERow.below h1 hb (RecE.below hb), ERow.below h2 hb (SvcE.below hb), ERow.below h3 hb (SagE.below hb)⟩
theorem SchV.only {b : Nat} {w w' : World} {v : Value} {x : Sch} (h : SchV w (some b) v x) {e : TypeId} (ho : Only e w w') (he : e ∉ schT) : SchV w' (some b) v x := by
  have hk := ho.kp b he
  obtain ⟨A1, n1, c1, A2, n2, c2, A3, n3, c3, e, h1, h2, h3⟩ := h
  exact ⟨A1, n1, c1, A2, n2, c2, A3, n3, c3, e, h1.kp hk (Nat.le_refl _) (by decide) (by decide) (by decide), h2.kp hk (Nat.le_refl _) (by decide) (by decide), h3.kp hk (Nat.le_refl _) (by decide) (by decide)⟩
def wkB (B B' : Option Nat) : Prop := ∀ b', B' = some b' → ∃ b, B = some b ∧ b' ≤ b
theorem FldE.weak {B B' : Option Nat} {w : World} (h : wkB B B') (cs : List Value) (x : Fld) (he : FldE B w cs x) : FldE B' w cs x := by
  obtain ⟨u, e, hs⟩ := he
  exact ⟨u, e, ERow.mono hs (fun _ _ hr => hr.weak h) (fun _ _ h => h)⟩
theorem RecE.weak {B B' : Option Nat} {w : World} (h : wkB B B') (cs : List Value) (x : Rec) (he : RecE B w cs x) : RecE B' w cs x := by
  obtain ⟨u, e, hs⟩ := he
  exact ⟨u, e, ERow.mono hs (fun _ _ hr => hr.weak h) (FldE.weak h)⟩
theorem SvcE.weak {B B' : Option Nat} {w : World} (h : wkB B B') (cs : List Value) (x : Svc) (he : SvcE B w cs x) : SvcE B' w cs x := by
  obtain ⟨u, e, hs⟩ := he
  exact ⟨u, e, ERow.mono hs (fun _ _ hr => hr.weak h) (fun _ _ h => h)⟩
theorem SagE.weak {B B' : Option Nat} {w : World} (h : wkB B B') (cs : List Value) (x : Sag) (he : SagE B w cs x) : SagE B' w cs x := by
  obtain ⟨u, e, hs⟩ := he
  exact ⟨u, e, ERow.mono hs (fun _ _ hr => hr.weak h) (fun _ _ h => h)⟩
theorem SchV.weak {B B' : Option Nat} {w : World} {v : Value} {x : Sch} (hb : wkB B B') (h : SchV w B v x) : SchV w B' v x := by
  obtain ⟨A1, n1, c1, A2, n2, c2, A3, n3, c3, e, h1, h2, h3⟩ := h
  exact ⟨A1, n1, c1, A2, n2, c2, A3, n3, c3, e, ERow.mono h1 (fun _ _ hr => hr.weak hb) (RecE.weak hb), ERow.mono h2 (fun _ _ hr => hr.weak hb) (SvcE.weak hb), ERow.mono h3 (fun _ _ hr => hr.weak hb) (SagE.weak hb)⟩
theorem wk_le {b b' : Nat} (h : b' ≤ b) : wkB (some b) (some b') := fun _ e => ⟨b, rfl, by injection e with e; omega⟩
theorem wk_none (B : Option Nat) : wkB B none := fun _ e => by cases e
theorem SchV.zero (w : World) (b : Nat) : SchV w (some b) (.agg #[.string ⟨#[]⟩, .slice none 0 0, .slice none 0 0, .slice none 0 0]) Sch.zero := ⟨_, _, _, _, _, _, _, _, _, rfl, ERow.nil _ _ _ _ _, ERow.nil _ _ _ _ _, ERow.nil _ _ _ _ _⟩
end Id
set_option maxRecDepth 100000 in
set_option maxHeartbeats 8000000 in
theorem pwhole_schema (s : ByteArray) (hs : s.size ≤ 9223372036854775807) (w : World) (hk : Tk.KW w) :
    Calls Tryd.prog 17 #[.string s, .func (.func 18) #[] #[]] w fun e w' => ∃ v, e = .returned (.tuple #[v, .int .i64 (Id.parse s).2.1, .int .i64 (Id.parse s).2.2]) ∧ Below w.heap.size w w' ∧ Id.SchV w' (some w.heap.size) v (Id.parse s).1 := by
  obtain ⟨R, HR⟩ : ∃ R, Hid (Id.parse s = R) := ⟨_, Lib.hid rfl⟩
  rw [HR.out]
  obtain ⟨⟨pl, pat, pe⟩, HT⟩ : ∃ T, Hid (Tk.all s = T) := ⟨_, Lib.hid rfl⟩
  have hpl := Tk.all_len s
  rw [HT.out] at hpl
  simp only at hpl
  have hbl := ((Below.refl w.heap.size w).alloc (Nat.le_refl _) (.cells #[.string ⟨#[]⟩, .slice none 0 0, .slice none 0 0, .slice none 0 0] 26)).alloc (by simp) (.cells #[.string ⟨#[]⟩, .slice none 0 0, .slice none 0 0, .slice none 0 0] 26)
  have hq := (Bk.new w 26 #[.string ⟨#[]⟩, .slice none 0 0, .slice none 0 0, .slice none 0 0]).alloc (.cells #[.string ⟨#[]⟩, .slice none 0 0, .slice none 0 0, .slice none 0 0] 26)
  have hz := Bk.new (w.alloc (.cells #[.string ⟨#[]⟩, .slice none 0 0, .slice none 0 0, .slice none 0 0] 26)) 26 #[.string ⟨#[]⟩, .slice none 0 0, .slice none 0 0, .slice none 0 0]
  have hkb := hk.below hbl
  have hz1 : ((w.alloc (.cells #[.string ⟨#[]⟩, .slice none 0 0, .slice none 0 0, .slice none 0 0] 26)).alloc (.cells #[.string ⟨#[]⟩, .slice none 0 0, .slice none 0 0, .slice none 0 0] 26)).heap.size = w.heap.size + 2 := by simp
  rw [World.size_alloc] at hz
  clear hk
  go_enter Tryd.func17, Tryd.ntmps17
  go_wp2_with fail
  generalize ((w.alloc (.cells #[.string ⟨#[]⟩, .slice none 0 0, .slice none 0 0, .slice none 0 0] 26)).alloc (.cells #[.string ⟨#[]⟩, .slice none 0 0, .slice none 0 0, .slice none 0 0] 26)) = w1 at *
  refine (all_any s (by unfold maxLen; omega) _).mono ?_
  rintro e w2 ⟨v2, rfl, hb2, hown⟩
  rw [HT.out] at hown ⊢
  simp only at hown ⊢
  have hq2 := hq.below hb2 hq.lt
  have hz2 := hz.below hb2 hz.lt
  have hk2 := hkb.below hb2
  have hB2 : Below w.heap.size w w2 := hbl.trans (hb2.mono (by omega))
  have hsz2 := hb2.size
  by_cases hpe : pe = 0
  case neg =>
    have HE : Hid (R = (Id.Sch.zero, pat, pe)) := Lib.hid (by rw [← HR.out]; unfold Id.parse Id.whole; rw [HT.out]; simp [hpe])
    have tpe : ((pe : Int) != 0) = true := by rw [bne_iff_ne]; omega
    have tpe2 : decide (pe = 0) = false := by simpa using hpe
    clear hpe hq hz hkb hb2
    obtain ⟨⟨q0, q1, q2, q3⟩, q4, q5, q6, q7⟩ := hq2.k4
    obtain ⟨⟨z0, z1, z2, z3⟩, _⟩ := hz2.k4
    go_wp2_with fail
    have hqf := ((((hq2.set_ 0 (.string ⟨#[]⟩)).set_ 1 (.slice none 0 0)).set_ 2 (.slice none 0 0)).set_ 3 (.slice none 0 0))
    have hBf : Below w.heap.size w _ := ((((hB2.setCell (p := ⟨w.heap.size, 0, none⟩) (Nat.le_refl _) (.string ⟨#[]⟩)).setCell (p := ⟨w.heap.size, 1, none⟩) (Nat.le_refl _) (.slice none 0 0)).setCell (p := ⟨w.heap.size, 2, none⟩) (Nat.le_refl _) (.slice none 0 0)).setCell (p := ⟨w.heap.size, 3, none⟩) (Nat.le_refl _) (.slice none 0 0))
    generalize ((((w2.setCell ⟨w.heap.size, 0, none⟩ (.string ⟨#[]⟩)).setCell ⟨w.heap.size, 1, none⟩ (.slice none 0 0)).setCell ⟨w.heap.size, 2, none⟩ (.slice none 0 0)).setCell ⟨w.heap.size, 3, none⟩ (.slice none 0 0)) = wf at *
    obtain ⟨⟨y0, y1, y2, y3⟩, _⟩ := hqf.k4
    refine bodyPost_ret (v := .tuple #[.agg #[.string ⟨#[]⟩, .slice none 0 0, .slice none 0 0, .slice none 0 0], .int .i64 pat, .int .i64 pe]) ?_ rfl ⟨_, by first | (rw [HE.out]; done) | (rw [HE.out]; rfl), hBf, by rw [HE.out]; exact Id.SchV.zero _ _⟩
    rw [res_ctt rfl]
    go_simp
    try rfl
  subst hpe
  have hPS := Id.Ps.of_own hown
  have hbl3 := (Below.refl w2.heap.size w2).alloc (Nat.le_refl _) (.cells #[v2, .bool false] 80)
  have hk3 := hk2.below hbl3
  have hq3 := hq2.below hbl3 hq2.lt
  have hz3 := hz2.below hbl3 hz2.lt
  have hb0 : 0 < w2.heap.size := hk2.1
  have hsz3 : w2.heap.size < (w2.alloc (.cells #[v2, .bool false] 80)).heap.size := by simp
  obtain ⟨A2, c2, rfl, _⟩ := Tk.row_reads hown
  obtain ⟨⟨x, s3⟩, H3⟩ : ∃ T, Hid (Id.schema (pl, false) = T) := ⟨_, Lib.hid rfl⟩
  have HR2 : Hid (R = match s3.1 with
    | [] => if s3.2 then (Id.Sch.zero, s.size, 120) else (x, 0, 0)
    | t :: _ => (Id.Sch.zero, t.at_, 120)) := Lib.hid (by rw [← HR.out]; unfold Id.parse Id.whole; rw [HT.out]; simp only [H3.out]; rfl)
  have HPS := Lib.hid hPS
  have HQ3 := Lib.hid hq3
  have HZ3 := Lib.hid hz3
  have HB3 := Lib.hid (hB2.trans (hbl3.mono (by omega)))
  have hrb : w.heap.size < w2.heap.size := hq2.lt
  have hzb : w.heap.size + 1 < w2.heap.size := hz2.lt
  clear hPS hbl3 hk2 hq2 hz2 hq hz hkb hb2 hown hB2 hq3 hz3 hbl hz1
  go_wp2_with fail
  refine (pschema_any w2.heap.size hb0 (pl, false) (by simp only; omega) _ hk3 HPS.out).mono ?_
  rintro e w4 ⟨v1, v2', v3, rfl, hg4, hp4, r1, r2, r3⟩
  rw [H3.out] at hp4 r1 r2 r3 ⊢
  simp only at hp4 r1 r2 r3 ⊢
  obtain ⟨A5, n5, c5, rfl⟩ := ERow.is r1
  obtain ⟨A6, n6, c6, rfl⟩ := ERow.is r2
  obtain ⟨A7, n7, c7, rfl⟩ := ERow.is r3
  have hne : ¬ w2.heap.size = w.heap.size := by omega
  have hne2 : ¬ w.heap.size + 1 = w.heap.size := by omega
  have HQ4 := Lib.hid (HQ3.out.grown hg4 (by intro e; injection e with e; omega))
  have HZ4 := Lib.hid (HZ3.out.grown hg4 (by intro e; injection e with e; omega))
  have HB4 := Lib.hid (below_gb HB3.out hg4 (by omega) (by omega))
  have hSV4 : Id.SchV w4 (some w.heap.size) (.agg #[.string x.name, .slice A5 n5 c5, .slice A6 n6 c6, .slice A7 n7 c7]) x := Id.SchV.weak (Id.wk_le (by omega)) ⟨_, _, _, _, _, _, _, _, _, rfl, r1, r2, r3⟩
  have HSV := Lib.hid hSV4
  obtain ⟨A, c, hpk, hpr, hpc, hpc2, hpn⟩ := hp4.lies
  have HTY := Lib.hid hp4.typ
  clear r1 r2 r3 hSV4 hp4 hk3 HPS HQ3 HZ3 HB3 hg4 hsz2 hsz3
  obtain ⟨⟨q0, q1, q2, q3⟩, q4, q5, q6, q7⟩ := HQ4.out.k4
  go_upto_region 7 with (fail)
  clear q0 q1 q2 q3 q4 q5 q6 q7
  have ho := ((((Only.set HQ4.out 0 (.string x.name)).trans (Only.set (HQ4.out.set_ 0 (.string x.name)) 1 (.slice A5 n5 c5))).trans (Only.set ((HQ4.out.set_ 0 (.string x.name)).set_ 1 (.slice A5 n5 c5)) 2 (.slice A6 n6 c6))).trans (Only.set (((HQ4.out.set_ 0 (.string x.name)).set_ 1 (.slice A5 n5 c5)).set_ 2 (.slice A6 n6 c6)) 3 (.slice A7 n7 c7)))
  have hq5 : Bk _ w.heap.size 26 #[.string x.name, .slice A5 n5 c5, .slice A6 n6 c6, .slice A7 n7 c7] := ((((HQ4.out.set_ 0 (.string x.name)).set_ 1 (.slice A5 n5 c5)).set_ 2 (.slice A6 n6 c6)).set_ 3 (.slice A7 n7 c7))
  have hp5 := ((((hpk.far (p := ⟨w.heap.size, 0, none⟩) hne (.string x.name)).far (p := ⟨w.heap.size, 1, none⟩) hne (.slice A5 n5 c5)).far (p := ⟨w.heap.size, 2, none⟩) hne (.slice A6 n6 c6)).far (p := ⟨w.heap.size, 3, none⟩) hne (.slice A7 n7 c7))
  have hz5 := ((((HZ4.out.far (p := ⟨w.heap.size, 0, none⟩) hne2 (.string x.name)).far (p := ⟨w.heap.size, 1, none⟩) hne2 (.slice A5 n5 c5)).far (p := ⟨w.heap.size, 2, none⟩) hne2 (.slice A6 n6 c6)).far (p := ⟨w.heap.size, 3, none⟩) hne2 (.slice A7 n7 c7))
  have HB5 := Lib.hid ((((HB4.out.setCell (p := ⟨w.heap.size, 0, none⟩) (Nat.le_refl _) (.string x.name)).setCell (p := ⟨w.heap.size, 1, none⟩) (Nat.le_refl _) (.slice A5 n5 c5)).setCell (p := ⟨w.heap.size, 2, none⟩) (Nat.le_refl _) (.slice A6 n6 c6)).setCell (p := ⟨w.heap.size, 3, none⟩) (Nat.le_refl _) (.slice A7 n7 c7))
  have hr5 : Tk.ReadT _ A s3.1 := hpr.only ho (fun g off e => HTY.out g off _ _ _ (by subst e; exact hpk)) (by decide)
  have HGN : Hid (∀ g off, A = some ⟨g, off, none⟩ → ¬ g = w.heap.size) := Lib.hid (fun g off e => Id.Typed.ne (HTY.out g off _ _ _ (by subst e; exact hpk)) HQ4.out (by decide))
  have HSV5 := Lib.hid (HSV.out.only ho (by decide))
  generalize ((((w4.setCell ⟨w.heap.size, 0, none⟩ (.string x.name)).setCell ⟨w.heap.size, 1, none⟩ (.slice A5 n5 c5)).setCell ⟨w.heap.size, 2, none⟩ (.slice A6 n6 c6)).setCell ⟨w.heap.size, 3, none⟩ (.slice A7 n7 c7)) = w5 at *
  clear ho hpk hpr HB4 HSV HZ4 HQ4 HTY
  obtain ⟨l3, bad⟩ := s3
  simp only at hp5 hr5 hpc HR2
  cases l3 with
  | nil =>
    simp only [List.length_nil] at hp5
    obtain ⟨⟨p0, p1⟩, _⟩ := hp5.k2
    obtain ⟨⟨q0, q1, q2, q3⟩, q4, q5, q6, q7⟩ := hq5.k4
    obtain ⟨⟨z0, z1, z2, z3⟩, _⟩ := hz5.k4
    clear hr5 hpc hpn
    cases bad
    · have HE : Hid (R = (x, 0, 0)) := Lib.hid (by rw [HR2.out]; rfl)
      go_wp2_with fail
      clear q0 q1 q2 q3 q4 q5 q6 q7
      have hqf : Bk _ w.heap.size 26 #[.string x.name, .slice A5 n5 c5, .slice A6 n6 c6, .slice A7 n7 c7] := ((((hq5.set_ 0 (.string x.name)).set_ 1 (.slice A5 n5 c5)).set_ 2 (.slice A6 n6 c6)).set_ 3 (.slice A7 n7 c7))
      have hBf := ((((HB5.out.setCell (p := ⟨w.heap.size, 0, none⟩) (Nat.le_refl _) (.string x.name)).setCell (p := ⟨w.heap.size, 1, none⟩) (Nat.le_refl _) (.slice A5 n5 c5)).setCell (p := ⟨w.heap.size, 2, none⟩) (Nat.le_refl _) (.slice A6 n6 c6)).setCell (p := ⟨w.heap.size, 3, none⟩) (Nat.le_refl _) (.slice A7 n7 c7))
      have hof := ((((Only.set hq5 0 (.string x.name)).trans (Only.set (hq5.set_ 0 (.string x.name)) 1 (.slice A5 n5 c5))).trans (Only.set ((hq5.set_ 0 (.string x.name)).set_ 1 (.slice A5 n5 c5)) 2 (.slice A6 n6 c6))).trans (Only.set (((hq5.set_ 0 (.string x.name)).set_ 1 (.slice A5 n5 c5)).set_ 2 (.slice A6 n6 c6)) 3 (.slice A7 n7 c7)))
      have hsf := HSV5.out.only hof (by decide)
      generalize ((((w5.setCell ⟨w.heap.size, 0, none⟩ (.string x.name)).setCell ⟨w.heap.size, 1, none⟩ (.slice A5 n5 c5)).setCell ⟨w.heap.size, 2, none⟩ (.slice A6 n6 c6)).setCell ⟨w.heap.size, 3, none⟩ (.slice A7 n7 c7)) = wf at *
      obtain ⟨⟨y0, y1, y2, y3⟩, _⟩ := hqf.k4
      refine bodyPost_ret (v := .tuple #[.agg #[.string x.name, .slice A5 n5 c5, .slice A6 n6 c6, .slice A7 n7 c7], .int .i64 0, .int .i64 0]) ?_ rfl ⟨_, by first | (rw [HE.out]; done) | (rw [HE.out]; rfl), hBf, by rw [HE.out]; exact hsf⟩
      rw [res_ctt rfl]
      go_simp
      try rfl
    · have HE : Hid (R = (Id.Sch.zero, s.size, 120)) := Lib.hid (by rw [HR2.out]; rfl)
      go_wp2_with fail
      clear q0 q1 q2 q3 q4 q5 q6 q7
      have hqf : Bk _ w.heap.size 26 #[.string ⟨#[]⟩, .slice none 0 0, .slice none 0 0, .slice none 0 0] := ((((hq5.set_ 0 (.string ⟨#[]⟩)).set_ 1 (.slice none 0 0)).set_ 2 (.slice none 0 0)).set_ 3 (.slice none 0 0))
      have hBf := ((((HB5.out.setCell (p := ⟨w.heap.size, 0, none⟩) (Nat.le_refl _) (.string ⟨#[]⟩)).setCell (p := ⟨w.heap.size, 1, none⟩) (Nat.le_refl _) (.slice none 0 0)).setCell (p := ⟨w.heap.size, 2, none⟩) (Nat.le_refl _) (.slice none 0 0)).setCell (p := ⟨w.heap.size, 3, none⟩) (Nat.le_refl _) (.slice none 0 0))
      have hof := ((((Only.set hq5 0 (.string ⟨#[]⟩)).trans (Only.set (hq5.set_ 0 (.string ⟨#[]⟩)) 1 (.slice none 0 0))).trans (Only.set ((hq5.set_ 0 (.string ⟨#[]⟩)).set_ 1 (.slice none 0 0)) 2 (.slice none 0 0))).trans (Only.set (((hq5.set_ 0 (.string ⟨#[]⟩)).set_ 1 (.slice none 0 0)).set_ 2 (.slice none 0 0)) 3 (.slice none 0 0)))
      generalize ((((w5.setCell ⟨w.heap.size, 0, none⟩ (.string ⟨#[]⟩)).setCell ⟨w.heap.size, 1, none⟩ (.slice none 0 0)).setCell ⟨w.heap.size, 2, none⟩ (.slice none 0 0)).setCell ⟨w.heap.size, 3, none⟩ (.slice none 0 0)) = wf at *
      obtain ⟨⟨y0, y1, y2, y3⟩, _⟩ := hqf.k4
      refine bodyPost_ret (v := .tuple #[.agg #[.string ⟨#[]⟩, .slice none 0 0, .slice none 0 0, .slice none 0 0], .int .i64 s.size, .int .i64 120]) ?_ rfl ⟨_, by first | (rw [HE.out]; done) | (rw [HE.out]; rfl), hBf, by rw [HE.out]; exact Id.SchV.zero _ _⟩
      rw [res_ctt rfl]
      go_simp
      try rfl
  | cons t r =>
    have HE : Hid (R = (Id.Sch.zero, t.at_, 120)) := Lib.hid HR2.out
    obtain ⟨g, off, rfl, hcs⟩ := hr5 (by simp)
    obtain ⟨t0, t1, t2, t3⟩ := hcs 0 (by simp)
    simp only [Nat.zero_mul, Nat.add_zero, List.getElem_cons_zero] at t0 t1 t2 t3
    simp only [List.length_cons] at hp5 hpc
    obtain ⟨m, hm⟩ : ∃ m, m = r.length := ⟨_, rfl⟩
    rw [← hm] at hp5 hpc
    have hm1 : ¬ (m : Int) + 1 = 0 := by omega
    have hm2 : (0 : Int) < (m : Int) + 1 := by omega
    have hm3 : ((m : Int) + 1 == 0) = false := by rw [beq_eq_false_iff_ne]; omega
    have hm4 : 0 < m + 1 := by omega
    obtain ⟨⟨p0, p1⟩, _⟩ := hp5.k2
    obtain ⟨⟨q0, q1, q2, q3⟩, q4, q5, q6, q7⟩ := hq5.k4
    obtain ⟨⟨z0, z1, z2, z3⟩, _⟩ := hz5.k4
    clear hcs hm hpn
    have hgn : ¬ g = w.heap.size := HGN.out _ _ rfl
    cases bad
    all_goals
      go_wp2_with fail
      go_region
      clear q0 q1 q2 q3 q4 q5 q6 q7 z0 z1 z2 z3 p0 p1 t0 t1 t2 t3
      have hqf : Bk _ w.heap.size 26 #[.string ⟨#[]⟩, .slice none 0 0, .slice none 0 0, .slice none 0 0] := ((((hq5.set_ 0 (.string ⟨#[]⟩)).set_ 1 (.slice none 0 0)).set_ 2 (.slice none 0 0)).set_ 3 (.slice none 0 0)).drew
      have hBf := ((((HB5.out.setCell (p := ⟨w.heap.size, 0, none⟩) (Nat.le_refl _) (.string ⟨#[]⟩)).setCell (p := ⟨w.heap.size, 1, none⟩) (Nat.le_refl _) (.slice none 0 0)).setCell (p := ⟨w.heap.size, 2, none⟩) (Nat.le_refl _) (.slice none 0 0)).setCell (p := ⟨w.heap.size, 3, none⟩) (Nat.le_refl _) (.slice none 0 0)).drew
      generalize ((((w5.setCell ⟨w.heap.size, 0, none⟩ (.string ⟨#[]⟩)).setCell ⟨w.heap.size, 1, none⟩ (.slice none 0 0)).setCell ⟨w.heap.size, 2, none⟩ (.slice none 0 0)).setCell ⟨w.heap.size, 3, none⟩ (.slice none 0 0)).drew = wf at *
      go_wp2_with fail
      obtain ⟨⟨y0, y1, y2, y3⟩, _⟩ := hqf.k4
      refine bodyPost_ret (v := .tuple #[.agg #[.string ⟨#[]⟩, .slice none 0 0, .slice none 0 0, .slice none 0 0], .int .i64 t.at_, .int .i64 120]) ?_ rfl ⟨_, by first | (rw [HE.out]; done) | (rw [HE.out]; rfl), hBf, by rw [HE.out]; exact Id.SchV.zero _ _⟩
      rw [res_ctt rfl]
      go_simp
      try rfl
set_option maxRecDepth 100000 in
set_option maxHeartbeats 8000000 in
theorem pparse_any (s : ByteArray) (hs : s.size ≤ 9223372036854775807) (w : World) (hk : Tk.KW w) :
    Calls Tryd.prog 8 #[.string s] w fun e w' => ∃ v, e = .returned (.tuple #[v, .int .i64 (Id.parse s).2.1, .int .i64 (Id.parse s).2.2]) ∧ Below w.heap.size w w' ∧ Id.SchV w' (some w.heap.size) v (Id.parse s).1 := by
  obtain ⟨R, HR⟩ : ∃ R, Hid (Id.parse s = R) := ⟨_, Lib.hid rfl⟩
  rw [HR.out]
  have hbl := (Below.refl w.heap.size w).alloc (Nat.le_refl _) (.cells #[.string ⟨#[]⟩, .slice none 0 0, .slice none 0 0, .slice none 0 0] 26)
  have hq := Bk.new w 26 #[.string ⟨#[]⟩, .slice none 0 0, .slice none 0 0, .slice none 0 0]
  have hk1 := hk.below hbl
  clear hk
  go_enter Tryd.func8, Tryd.ntmps8
  go_wp2_with fail
  refine (pwhole_schema s hs _ hk1).mono ?_
  rintro e w2 ⟨v, rfl, hb2, hsv⟩
  rw [HR.out] at hsv ⊢
  have hB2 := Lib.hid (hbl.trans (hb2.mono (by simp)))
  have hq5 := hq.below hb2 hq.lt
  have HSV := Lib.hid (Id.SchV.weak (Id.wk_le (by simp)) hsv : Id.SchV w2 (some w.heap.size) v R.1)
  obtain ⟨A5, n5, c5, A6, n6, c6, A7, n7, c7, rfl, _⟩ := hsv
  clear hq hbl hk1 hb2
  obtain ⟨⟨q0, q1, q2, q3⟩, q4, q5, q6, q7⟩ := hq5.k4
  generalize R.1.name = xn at *
  go_wp2_with fail
  clear q0 q1 q2 q3 q4 q5 q6 q7
  have hqf : Bk _ w.heap.size 26 #[.string xn, .slice A5 n5 c5, .slice A6 n6 c6, .slice A7 n7 c7] := ((((hq5.set_ 0 (.string xn)).set_ 1 (.slice A5 n5 c5)).set_ 2 (.slice A6 n6 c6)).set_ 3 (.slice A7 n7 c7))
  have hBf := ((((hB2.out.setCell (p := ⟨w.heap.size, 0, none⟩) (Nat.le_refl _) (.string xn)).setCell (p := ⟨w.heap.size, 1, none⟩) (Nat.le_refl _) (.slice A5 n5 c5)).setCell (p := ⟨w.heap.size, 2, none⟩) (Nat.le_refl _) (.slice A6 n6 c6)).setCell (p := ⟨w.heap.size, 3, none⟩) (Nat.le_refl _) (.slice A7 n7 c7))
  have hsf := HSV.out.only ((((Only.set hq5 0 (.string xn)).trans (Only.set (hq5.set_ 0 (.string xn)) 1 (.slice A5 n5 c5))).trans (Only.set ((hq5.set_ 0 (.string xn)).set_ 1 (.slice A5 n5 c5)) 2 (.slice A6 n6 c6))).trans (Only.set (((hq5.set_ 0 (.string xn)).set_ 1 (.slice A5 n5 c5)).set_ 2 (.slice A6 n6 c6)) 3 (.slice A7 n7 c7))) (by decide)
  generalize ((((w2.setCell ⟨w.heap.size, 0, none⟩ (.string xn)).setCell ⟨w.heap.size, 1, none⟩ (.slice A5 n5 c5)).setCell ⟨w.heap.size, 2, none⟩ (.slice A6 n6 c6)).setCell ⟨w.heap.size, 3, none⟩ (.slice A7 n7 c7)) = wf at *
  obtain ⟨⟨y0, y1, y2, y3⟩, _⟩ := hqf.k4
  refine bodyPost_ret (v := .tuple #[.agg #[.string xn, .slice A5 n5 c5, .slice A6 n6 c6, .slice A7 n7 c7], .int .i64 R.2.1, .int .i64 R.2.2]) ?_ rfl ⟨_, rfl, hBf, hsf⟩
  rw [res_ctt rfl]
  go_simp
  try rfl
end Go.Proofs.YtoomlpalkinipaaDoor
