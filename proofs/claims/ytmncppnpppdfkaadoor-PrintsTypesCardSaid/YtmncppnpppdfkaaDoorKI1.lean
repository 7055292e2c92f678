/- The parser: schema's walk. The parser: whole, Parse, Type. Same sorts, records, services, sagas, schemas. (merged by merge.py: XIdlN XIdlO XIdlX). No condition but the ones the theorems state. -/
import Derived.Test.YtmncppnpppdfkaaDoorIdlK2
import Derived.Test.YtmncppnpppdfkaaDoorK0
import Derived.Test.YtmncppnpppdfkaaDoorKT2
set_option linter.unusedVariables false
set_option linter.unusedSimpArgs false
namespace Go.Proofs.YtmncppnpppdfkaaDoor
open Go.RowKit
end Go.Proofs.YtmncppnpppdfkaaDoor
set_option linter.unusedVariables false
set_option linter.unusedSimpArgs false
namespace Go.Proofs.YtmncppnpppdfkaaDoor
open Go.RowKit
theorem Tk.scan_len (d : Nat) (s : ByteArray) : ∀ (f k : Nat) (acc : List Tk.Tok), k ≤ s.size → acc.length ≤ k → (Tk.scan d s f k acc).1.length ≤ s.size
  | 0, k, acc, hk, ha => by unfold Tk.scan; exact Nat.le_trans ha hk
  | f + 1, k, acc, hk, ha => by
    unfold Tk.scan
    split
    · rename_i hlt
      split
      · simp
      · rename_i he
        have hok := Tk.oneAt_ok (d := d) (s := s) (k := k) hlt (by simpa using he)
        refine Tk.scan_len d s f _ _ (Tk.gapEnd_le false hok.2) ?_
        rw [List.length_append, List.length_singleton]
        have := Tk.gapEnd_ge false s (k + (Tk.oneAt d s k).1.text.size)
        omega
    · exact Nat.le_trans ha hk
theorem Tk.all_len (s : ByteArray) : (Tk.all s).1.length ≤ 65536 := by
  unfold Tk.all
  split
  · simp
  · rename_i h
    have := Tk.scan_len 3 s (s.size + 1) (Tk.gapEnd false s 0) [] (Tk.gapEnd_le false (by omega)) (by simp)
    omega
theorem Tk.ReadT.only {w w' : World} {A : Option Addr} {ls : List Tk.Tok} {e : TypeId} (h : Tk.ReadT w A ls) (ho : Only e w w') (ht : ∀ g off, A = some ⟨g, off, none⟩ → Id.Typed w g) (he : 96 ≠ e) : Tk.ReadT w' A ls := fun h0 => by
  obtain ⟨g, off, e1, hc⟩ := h h0
  obtain ⟨cs, fr, hh⟩ := ht g off e1
  have kc : ∀ o, w'.cell? ⟨g, o, none⟩ = w.cell? ⟨g, o, none⟩ := fun o => World.cell?_of_block (a := ⟨g, o, none⟩) ((ho.typed hh he).trans hh.symm)
  exact ⟨g, off, e1, fun j hj => by rw [kc, kc, kc, kc]; exact hc j hj⟩
theorem Id.Typed.ne {w : World} {g b : Nat} {t : TypeId} {cs : Array Value} (h : Id.Typed w g) (hb : Bk w b t cs) (ht : 96 ≠ t) : ¬ g = b := by
  rintro rfl
  obtain ⟨cs', fr, hh⟩ := h
  unfold Bk at hb
  rw [hh] at hb
  injection hb with hb
  injection hb with _ h2
  exact ht h2
namespace Id
def whole {α : Type} (zero : α) (read : St → α × St) (s : ByteArray) : α × Nat × Nat :=
  if (Tk.all s).2.2 ≠ 0 then (zero, (Tk.all s).2.1, (Tk.all s).2.2) else
  match (read ((Tk.all s).1, false)).2.1 with
  | [] => if (read ((Tk.all s).1, false)).2.2 then (zero, s.size, 120) else ((read ((Tk.all s).1, false)).1, 0, 0)
  | t :: _ => (zero, t.at_, 120)
def Sch.zero : Sch := ⟨⟨#[]⟩, [], [], []⟩
def parse (s : ByteArray) : Sch × Nat × Nat := whole Sch.zero schema s
def type (s : ByteArray) : List Srt × Nat × Nat := whole [] sorts s
/-- A schema as it is handed on. -/
def SchV (w : World) (B : Option Nat) (v : Value) (x : Sch) : Prop := ∃ A1 n1 c1 A2 n2 c2 A3 n3 c3, v = .agg #[.string x.name, .slice A1 n1 c1, .slice A2 n2 c2, .slice A3 n3 c3] ∧ RecsR w B (.slice A1 n1 c1) x.records ∧ SvcsR w B (.slice A2 n2 c2) x.services ∧ SagsR w B (.slice A3 n3 c3) x.sagas
theorem FldE.below {B : Option Nat} {w w' : World} (h : Below w.heap.size w w') (cs : List Value) (x : Fld) (he : FldE B w cs x) : FldE B w' cs x := by
  obtain ⟨u, e, hs⟩ := he
  exact ⟨u, e, ERow.below hs h (fun _ _ h => h)⟩
theorem RecE.below {B : Option Nat} {w w' : World} (h : Below w.heap.size w w') (cs : List Value) (x : Rec) (he : RecE B w cs x) : RecE B w' cs x := by
  obtain ⟨u, e, hs⟩ := he
  exact ⟨u, e, ERow.below hs h (FldE.below h)⟩
theorem SvcE.below {B : Option Nat} {w w' : World} (h : Below w.heap.size w w') (cs : List Value) (x : Svc) (he : SvcE B w cs x) : SvcE B w' cs x := by
  obtain ⟨u, e, hs⟩ := he
  exact ⟨u, e, ERow.below hs h (fun _ _ h => h)⟩
theorem SagE.below {B : Option Nat} {w w' : World} (h : Below w.heap.size w w') (cs : List Value) (x : Sag) (he : SagE B w cs x) : SagE B w' cs x := by
  obtain ⟨u, e, hs⟩ := he
  exact ⟨u, e, ERow.below hs h (fun _ _ h => h)⟩
theorem SchV.below {B : Option Nat} {w w' : World} {v : Value} {x : Sch} (hb : Below w.heap.size w w') (h : SchV w B v x) : SchV w' B v x := by
  obtain ⟨A1, n1, c1, A2, n2, c2, A3, n3, c3, e, h1, h2, h3⟩ := h
  exact ⟨A1, n1, c1, A2, n2, c2, A3, n3, c3, e, ERow.below h1 hb (RecE.below hb), ERow.below h2 hb (SvcE.below hb), ERow.below h3 hb (SagE.below hb)⟩
theorem SchV.only {b : Nat} {w w' : World} {v : Value} {x : Sch} (h : SchV w (some b) v x) {e : TypeId} (ho : Only e w w') (he : e ∉ schT) : SchV w' (some b) v x := by
  have hk := ho.kp b he
  obtain ⟨A1, n1, c1, A2, n2, c2, A3, n3, c3, e, h1, h2, h3⟩ := h
  exact ⟨A1, n1, c1, A2, n2, c2, A3, n3, c3, e, h1.kp hk (Nat.le_refl _) (by decide) (by decide) (by decide), h2.kp hk (Nat.le_refl _) (by decide) (by decide), h3.kp hk (Nat.le_refl _) (by decide) (by decide)⟩
def wkB (B B' : Option Nat) : Prop := ∀ b', B' = some b' → ∃ b, B = some b ∧ b' ≤ b
theorem FldE.weak {B B' : Option Nat} {w : World} (h : wkB B B') (cs : List Value) (x : Fld) (he : FldE B w cs x) : FldE B' w cs x := by
  obtain ⟨u, e, hs⟩ := he
  exact ⟨u, e, ERow.mono hs (fun _ _ hr => hr.weak h) (fun _ _ h => h)⟩
theorem RecE.weak {B B' : Option Nat} {w : World} (h : wkB B B') (cs : List Value) (x : Rec) (he : RecE B w cs x) : RecE B' w cs x := by
  obtain ⟨u, e, hs⟩ := he
  exact ⟨u, e, ERow.mono hs (fun _ _ hr => hr.weak h) (FldE.weak h)⟩
theorem SvcE.weak {B B' : Option Nat} {w : World} (h : wkB B B') (cs : List Value) (x : Svc) (he : SvcE B w cs x) : SvcE B' w cs x := by
  obtain ⟨u, e, hs⟩ := he
  exact ⟨u, e, ERow.mono hs (fun _ _ hr => hr.weak h) (fun _ _ h => h)⟩
theorem SagE.weak {B B' : Option Nat} {w : World} (h : wkB B B') (cs : List Value) (x : Sag) (he : SagE B w cs x) : SagE B' w cs x := by
  obtain ⟨u, e, hs⟩ := he
  exact ⟨u, e, ERow.mono hs (fun _ _ hr => hr.weak h) (fun _ _ h => h)⟩
theorem SchV.weak {B B' : Option Nat} {w : World} {v : Value} {x : Sch} (hb : wkB B B') (h : SchV w B v x) : SchV w B' v x := by
  obtain ⟨A1, n1, c1, A2, n2, c2, A3, n3, c3, e, h1, h2, h3⟩ := h
  exact ⟨A1, n1, c1, A2, n2, c2, A3, n3, c3, e, ERow.mono h1 (fun _ _ hr => hr.weak hb) (RecE.weak hb), ERow.mono h2 (fun _ _ hr => hr.weak hb) (SvcE.weak hb), ERow.mono h3 (fun _ _ hr => hr.weak hb) (SagE.weak hb)⟩
theorem wk_le {b b' : Nat} (h : b' ≤ b) : wkB (some b) (some b') := fun _ e => ⟨b, rfl, by injection e with e; omega⟩
theorem wk_none (B : Option Nat) : wkB B none := fun _ e => by cases e
theorem SchV.zero (w : World) (b : Nat) : SchV w (some b) (.agg #[.string ⟨#[]⟩, .slice none 0 0, .slice none 0 0, .slice none 0 0]) Sch.zero := ⟨_, _, _, _, _, _, _, _, _, rfl, ERow.nil _ _ _ _ _, ERow.nil _ _ _ _ _, ERow.nil _ _ _ _ _⟩
end Id
end Go.Proofs.YtmncppnpppdfkaaDoor
set_option linter.unusedVariables false
set_option linter.unusedSimpArgs false
namespace Go.Proofs.YtmncppnpppdfkaaDoor
open Go.RowKit
theorem calls_qd' {P : Program} {f : FuncId} {args : Array Value} {w : World} {v : Value} (n : Nat) (h : Calls P f args (w.drewN n) fun e w' => e = .returned v ∧ ∃ q, w' = (w.drewN n).drewN q) : Calls P f args (w.drewN n) fun e w' => e = .returned v ∧ ∃ q, w' = w.drewN q :=
  h.mono fun _ _ ⟨he, q, hq⟩ => ⟨he, n + q, by rw [hq, World.drewN_drewN]⟩
namespace Id
def sameF {α : Type} (eq : α → α → Bool) : List α → List α → Bool
  | [], [] => true
  | x :: a, y :: b => eq x y && sameF eq a b
  | _, _ => false
theorem sameF_len {α : Type} {eq : α → α → Bool} : ∀ (a b : List α), a.length ≠ b.length → sameF eq a b = false
  | [], [], h => absurd rfl h
  | [], _ :: _, _ => rfl
  | _ :: _, [], _ => rfl
  | x :: a, y :: b, h => by
    unfold sameF
    rw [sameF_len a b (by simpa using h), Bool.and_false]
theorem sameF_refl {α : Type} {eq : α → α → Bool} (h : ∀ x, eq x x = true) : ∀ a : List α, sameF eq a a = true
  | [] => rfl
  | x :: a => by unfold sameF; rw [h, sameF_refl h a]; rfl
theorem sameF_drop {α : Type} {eq : α → α → Bool} {a b : List α} {k : Nat} (ha : k < a.length) (hb : k < b.length) : sameF eq (a.drop k) (b.drop k) = (eq a[k] b[k] && sameF eq (a.drop (k + 1)) (b.drop (k + 1))) := by
  rw [List.drop_eq_getElem_cons ha, List.drop_eq_getElem_cons hb]
  rfl
theorem sameF_done {α : Type} {eq : α → α → Bool} {a b : List α} {k : Nat} (ha : a.length ≤ k) (hb : b.length ≤ k) : sameF eq (a.drop k) (b.drop k) = true := by
  rw [List.drop_of_length_le ha, List.drop_of_length_le hb]
  rfl
def srtEq (x y : Srt) : Bool := x.kind == y.kind && x.name.toList == y.name.toList
def mthEq (x y : Mth) : Bool := x.name.toList == y.name.toList && x.arg.toList == y.arg.toList && x.result == y.result && x.effect.toList == y.effect.toList && x.undo.toList == y.undo.toList
def stpEq (x y : Stp) : Bool := x.service.toList == y.service.toList && x.method.toList == y.method.toList && x.at_ == y.at_
def fldEq (x y : Fld) : Bool := x.name.toList == y.name.toList && sameF srtEq x.type y.type
def recEq (x y : Rec) : Bool := x.name.toList == y.name.toList && x.choice == y.choice && sameF fldEq x.fields y.fields
def svcEq (x y : Svc) : Bool := x.name.toList == y.name.toList && sameF mthEq x.methods y.methods
def sagEq (x y : Sag) : Bool := x.name.toList == y.name.toList && x.arg.toList == y.arg.toList && sameF stpEq x.steps y.steps
def schEq (x y : Sch) : Bool := x.name.toList == y.name.toList && sameF recEq x.records y.records && sameF svcEq x.services y.services && sameF sagEq x.sagas y.sagas
theorem srtEq_refl (x : Srt) : srtEq x x = true := by simp [srtEq]
theorem mthEq_refl (x : Mth) : mthEq x x = true := by simp [mthEq]
theorem stpEq_refl (x : Stp) : stpEq x x = true := by simp [stpEq]
theorem fldEq_refl (x : Fld) : fldEq x x = true := by simp [fldEq, sameF_refl srtEq_refl]
theorem recEq_refl (x : Rec) : recEq x x = true := by simp [recEq, sameF_refl fldEq_refl]
theorem svcEq_refl (x : Svc) : svcEq x x = true := by simp [svcEq, sameF_refl mthEq_refl]
theorem sagEq_refl (x : Sag) : sagEq x x = true := by simp [sagEq, sameF_refl stpEq_refl]
theorem schEq_refl (x : Sch) : schEq x x = true := by simp [schEq, sameF_refl recEq_refl, sameF_refl svcEq_refl, sameF_refl sagEq_refl]
end Id
set_option maxRecDepth 100000 in
set_option maxHeartbeats 4000000 in
theorem samesorts_any (va vb : Value) (a b : List Id.Srt) (w : World) (ha : Id.SortsR w none va a) (hb : Id.SortsR w none vb b) :
    Calls Tryd.prog 44 #[va, vb] w fun e w' => e = .returned (.bool (Id.sameF Id.srtEq a b)) ∧ ∃ q, w' = w.drewN q := by
  obtain ⟨R, HR⟩ : ∃ R, Hid (Id.sameF Id.srtEq a b = R) := ⟨_, Lib.hid rfl⟩
  rw [HR.out]
  obtain ⟨A, ca, rfl, ha1, ha2, _⟩ := ERow.slice ha
  obtain ⟨B, cb, rfl, hb1, hb2, _⟩ := ERow.slice hb
  have Ha := Lib.hid ha
  have Hb := Lib.hid hb
  by_cases hl : a.length = b.length
  case neg =>
    have HE : Hid (R = false) := Lib.hid (by rw [← HR.out]; exact Id.sameF_len a b hl)
    have h1 : ((a.length : Int) != b.length) = true := by rw [bne_iff_ne]; omega
    clear ha hb
    generalize a.length = n at *
    generalize b.length = m at *
    go_enter Tryd.func44, Tryd.ntmps44
    go_wp2_with fail
    go_ret
    exact ⟨(by first | (rw [HE.out]; done) | (rw [HE.out]; rfl)), 0, rfl⟩
  obtain ⟨n, hn⟩ : ∃ n, n = a.length := ⟨_, rfl⟩
  rw [← hl, ← hn] at Hb ⊢
  rw [← hn] at Ha
  have HNA := Lib.hid hn
  have HNB : Hid (n = b.length) := Lib.hid (hn.trans hl)
  have hnm : n ≤ 9223372036854775807 := by omega
  clear ha hb hl hn ha1 ha2 hb1 hb2
  go_enter Tryd.func44, Tryd.ntmps44
  go_wp2_with fail
  go_loopw [5] (fun i wr => ∃ k q : Nat, k ≤ n ∧ i = .int .i64 k ∧ Hid (R = Id.sameF Id.srtEq (a.drop k) (b.drop k)) ∧ Hid (wr = w.drewN q)) (fun i _ => n - (intOf i).toNat)
  case atStart => exact ⟨0, 0, by omega, rfl, Lib.hid HR.out.symm, Lib.hid rfl⟩
  case round =>
    obtain ⟨k, q, hk, rfl, HK, HW⟩ := hrel
    obtain rfl := HW.out
    by_cases hlt : k < n
    · have hka : k < a.length := by rw [← HNA.out]; exact hlt
      have hkb : k < b.length := by rw [← HNB.out]; exact hlt
      obtain ⟨ag, ao, acs, rfl, _, ea, hca⟩ := Ha.out.get hka (by omega)
      obtain ⟨bg, bo, bcs, rfl, _, eb, hcb⟩ := Hb.out.get hkb (by omega)
      have HD := HK.out
      rw [Id.sameF_drop hka hkb] at HD
      generalize a[k] = x at *
      generalize b[k] = y at *
      obtain ⟨xk, xn⟩ := x
      obtain ⟨yk, yn⟩ := y
      unfold Id.SortE Id.Srt.cells at ea eb
      subst ea eb
      have a0 := hca 0 _ rfl
      have a1 := hca 1 _ rfl
      have b0 := hcb 0 _ rfl
      have b1 := hcb 1 _ rfl
      simp only [Nat.add_zero] at a0 b0
      have i0 : (0 : Int) ≤ (k : Int) := by omega
      have i1 : (k : Int) < (n : Int) := by omega
      have HD2 := Lib.hid HD
      clear hca hcb HD HW HK hka hkb
      by_cases hkk : xk = yk
      · subst hkk
        cases hnn : (xn.toList == yn.toList)
        · have HE : Hid (R = false) := Lib.hid (by rw [HD2.out]; simp [Id.srtEq, hnn])
          go_wp2_with fail
          go_quiet (fail)
          go_wp2_with fail
          go_ret
          exact ⟨(by first | (rw [HE.out]; done) | (rw [HE.out]; rfl)), _, World.drewN_drewN _ _ _⟩
        · have HE : Hid (R = Id.sameF Id.srtEq (a.drop (k + 1)) (b.drop (k + 1))) := Lib.hid (by rw [HD2.out]; simp [Id.srtEq, hnn])
          go_wp2_with fail
          go_quiet (fail)
          go_wp2_with fail
          go_roundw
          case rel => exact ⟨k + 1, _, by omega, by go_num, HE, Lib.hid rfl⟩
          case measure => simp [intOf]; omega
      · have HE : Hid (R = false) := Lib.hid (by rw [HD2.out]; simp [Id.srtEq, hkk])
        have hki : ((xk : Int) == (yk : Int)) = false := by rw [beq_eq_false_iff_ne]; omega
        clear hkk
        go_wp2_with fail
        go_quiet (fail)
        go_wp2_with fail
        go_ret
        exact ⟨(by first | (rw [HE.out]; done) | (rw [HE.out]; rfl)), _, World.drewN_drewN _ _ _⟩
    · obtain rfl : k = n := by omega
      have HE : Hid (R = true) := Lib.hid (by rw [HK.out, Id.sameF_done (by rw [HNA.out]; exact Nat.le_refl _) (by rw [HNB.out]; exact Nat.le_refl _)])
      go_wp2_with fail
      go_ret
      exact ⟨(by first | (rw [HE.out]; done) | (rw [HE.out]; rfl)), q, rfl⟩
end Go.Proofs.YtmncppnpppdfkaaDoor
