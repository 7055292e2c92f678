/- Same sorts, records, services, sagas, schemas. -/
import Derived.Test.YtoomlpalkinipaaDoorIdlO
set_option linter.unusedVariables false
set_option linter.unusedSimpArgs false
namespace Go.Proofs.YtoomlpalkinipaaDoor
open Go.RowKit
theorem calls_qd' {P : Program} {f : FuncId} {args : Array Value} {w : World} {v : Value} (n : Nat) (h : Calls P f args (w.drewN n) fun e w' => e = .returned v ∧ ∃ q, w' = (w.drewN n).drewN q) : Calls P f args (w.drewN n) fun e w' => e = .returned v ∧ ∃ q, w' = w.drewN q :=
  h.mono fun _ _ ⟨he, q, hq⟩ => ⟨he, n + q, by rw [hq, World.drewN_drewN]⟩
namespace Id
def sameF {α : Type} (eq : α → α → Bool) : List α → List α → Bool
  | [], [] => true
  | x :: a, y :: b => eq x y && sameF eq a b
  | _, _ => false
theorem sameF_len {α : Type} {eq : α → α → Bool} : ∀ (a b : List α), a.length ≠ b.length → sameF eq a b = false
  | [], [], h => absurd rfl h
  | [], _ :: _, _ => rfl
  | _ :: _, [], _ => rfl
  | x :: a, y :: b, h => by
    unfold sameF
    rw [sameF_len a b (by simpa using h), Bool.and_false]
theorem sameF_refl {α : Type} {eq : α → α → Bool} (h : ∀ x, eq x x = true) : ∀ a : List α, sameF eq a a = true
  | [] => rfl
  | x :: a => by unfold sameF; rw [h, sameF_refl h a]; rfl
theorem sameF_drop {α : Type} {eq : α → α → Bool} {a b : List α} {k : Nat} (ha : k < a.length) (hb : k < b.length) : sameF eq (a.drop k) (b.drop k) = (eq a[k] b[k] && sameF eq (a.drop (k + 1)) (b.drop (k + 1))) := by
  rw [List.drop_eq_getElem_cons ha, List.drop_eq_getElem_cons hb]
  rfl
theorem sameF_done {α : Type} {eq : α → α → Bool} {a b : List α} {k : Nat} (ha : a.length ≤ k) (hb : b.length ≤ k) : sameF eq (a.drop k) (b.drop k) = true := by
  rw [List.drop_of_length_le ha, List.drop_of_length_le hb]
  rfl
def srtEq (x y : Srt) : Bool := x.kind == y.kind && x.name.toList == y.name.toList
def mthEq (x y : Mth) : Bool := x.name.toList == y.name.toList && x.arg.toList == y.arg.toList && x.result == y.result && x.effect.toList == y.effect.toList && x.undo.toList == y.undo.toList
def stpEq (x y : Stp) : Bool := x.service.toList == y.service.toList && x.method.toList == y.method.toList && x.at_ == y.at_
def fldEq (x y : Fld) : Bool := x.name.toList == y.name.toList && sameF srtEq x.type y.type
def recEq (x y : Rec) : Bool := x.name.toList == y.name.toList && x.choice == y.choice && sameF fldEq x.fields y.fields
def svcEq (x y : Svc) : Bool := x.name.toList == y.name.toList && sameF mthEq x.methods y.methods
def sagEq (x y : Sag) : Bool := x.name.toList == y.name.toList && x.arg.toList == y.arg.toList && sameF stpEq x.steps y.steps
def schEq (x y : Sch) : Bool := x.name.toList == y.name.toList && sameF recEq x.records y.records && sameF svcEq x.services y.services && sameF sagEq x.sagas y.sagas
theorem srtEq_refl (x : Srt) : srtEq x x = true := by simp [srtEq]
theorem mthEq_refl (x : Mth) : mthEq x x = true := by simp [mthEq]
theorem stpEq_refl (x : Stp) : stpEq x x = true := by simp [stpEq]
theorem fldEq_refl (x : Fld) : fldEq x x = true := by simp [fldEq, sameF_refl srtEq_refl]
theorem recEq_refl (x : Rec) : recEq x x = true := by simp [recEq, sameF_refl fldEq_refl]
theorem svcEq_refl (x : Svc) : svcEq x x = true := by simp [svcEq, sameF_refl mthEq_refl]
theorem sagEq_refl (x : Sag) : sagEq x x = true := by simp [sagEq, sameF_refl stpEq_refl]
theorem schEq_refl (x : Sch) : schEq x x = true := by simp [schEq, sameF_refl recEq_refl, sameF_refl svcEq_refl, sameF_refl sagEq_refl]
end Id
set_option maxRecDepth 100000 in
set_option maxHeartbeats 4000000 in
theorem samesorts_any (va vb : Value) (a b : List Id.Srt) (w : World) (ha : Id.SortsR w none va a) (hb : Id.SortsR w none vb b) :
    Calls Tryd.prog 16 #[va, vb] w fun e w' => e = .returned (.bool (Id.sameF Id.srtEq a b)) ∧ ∃ q, w' = w.drewN q := by
  obtain ⟨R, HR⟩ : ∃ R, Hid (Id.sameF Id.srtEq a b = R) := ⟨_, Lib.hid rfl⟩
  rw [HR.out]
  obtain ⟨A, ca, rfl, ha1, ha2, _⟩ := ERow.slice ha
  obtain ⟨B, cb, rfl, hb1, hb2, _⟩ := ERow.slice hb
  have Ha := Lib.hid ha
  have Hb := Lib.hid hb
  by_cases hl : a.length = b.length
  case neg =>
    have HE : Hid (R = false) := Lib.hid (by rw [← HR.out]; exact Id.sameF_len a b hl)
    have h1 : ((a.length : Int) != b.length) = true := by rw [bne_iff_ne]; omega
    clear ha hb
    generalize a.length = n at *
    generalize b.length = m at *
    go_enter Tryd.func16, Tryd.ntmps16
    go_wp2_with fail
    go_ret
    exact ⟨(by first | (rw [HE.out]; done) | (rw [HE.out]; rfl)), 0, rfl⟩
  obtain ⟨n, hn⟩ : ∃ n, n = a.length := ⟨_, rfl⟩
  rw [← hl, ← hn] at Hb ⊢
  rw [← hn] at Ha
  have HNA := Lib.hid hn
  have HNB : Hid (n = b.length) := Lib.hid (hn.trans hl)
  have hnm : n ≤ 9223372036854775807 := by omega
  clear ha hb hl hn ha1 ha2 hb1 hb2
  go_enter Tryd.func16, Tryd.ntmps16
  go_wp2_with fail
  go_loopw [5] (fun i wr => ∃ k q : Nat, k ≤ n ∧ i = .int .i64 k ∧ Hid (R = Id.sameF Id.srtEq (a.drop k) (b.drop k)) ∧ Hid (wr = w.drewN q)) (fun i _ => n - (intOf i).toNat)
  case atStart => exact ⟨0, 0, by omega, rfl, Lib.hid HR.out.symm, Lib.hid rfl⟩
  case round =>
    obtain ⟨k, q, hk, rfl, HK, HW⟩ := hrel
    obtain rfl := HW.out
    by_cases hlt : k < n
    · have hka : k < a.length := by rw [← HNA.out]; exact hlt
      have hkb : k < b.length := by rw [← HNB.out]; exact hlt
      obtain ⟨ag, ao, acs, rfl, _, ea, hca⟩ := Ha.out.get hka (by omega)
      obtain ⟨bg, bo, bcs, rfl, _, eb, hcb⟩ := Hb.out.get hkb (by omega)
      have HD := HK.out
      rw [Id.sameF_drop hka hkb] at HD
      generalize a[k] = x at *
      generalize b[k] = y at *
      obtain ⟨xk, xn⟩ := x
      obtain ⟨yk, yn⟩ := y
      unfold Id.SortE Id.Srt.cells at ea eb
      subst ea eb
      have a0 := hca 0 _ rfl
      have a1 := hca 1 _ rfl
      have b0 := hcb 0 _ rfl
      have b1 := hcb 1 _ rfl
      simp only [Nat.add_zero] at a0 b0
      have i0 : (0 : Int) ≤ (k : Int) := by omega
      have i1 : (k : Int) < (n : Int) := by omega
      have HD2 := Lib.hid HD
      clear hca hcb HD HW HK hka hkb
      by_cases hkk : xk = yk
      · subst hkk
        cases hnn : (xn.toList == yn.toList)
        · have HE : Hid (R = false) := Lib.hid (by rw [HD2.out]; simp [Id.srtEq, hnn])
          go_wp2_with fail
          go_quiet (fail)
          go_wp2_with fail
          go_ret
          exact ⟨(by first | (rw [HE.out]; done) | (rw [HE.out]; rfl)), _, World.drewN_drewN _ _ _⟩
        · have HE : Hid (R = Id.sameF Id.srtEq (a.drop (k + 1)) (b.drop (k + 1))) := Lib.hid (by rw [HD2.out]; simp [Id.srtEq, hnn])
          go_wp2_with fail
          go_quiet (fail)
          go_wp2_with fail
          go_roundw
          case rel => exact ⟨k + 1, _, by omega, by go_num, HE, Lib.hid rfl⟩
          case measure => simp [intOf]; omega
      · have HE : Hid (R = false) := Lib.hid (by rw [HD2.out]; simp [Id.srtEq, hkk])
        have hki : ((xk : Int) == (yk : Int)) = false := by rw [beq_eq_false_iff_ne]; omega
        clear hkk
        go_wp2_with fail
        go_quiet (fail)
        go_wp2_with fail
        go_ret
        exact ⟨(by first | (rw [HE.out]; done) | (rw [HE.out]; rfl)), _, World.drewN_drewN _ _ _⟩
    · obtain rfl : k = n := by omega
      have HE : Hid (R = true) := Lib.hid (by rw [HK.out, Id.sameF_done (by rw [HNA.out]; exact Nat.le_refl _) (by rw [HNB.out]; exact Nat.le_refl _)])
      go_wp2_with fail
      go_ret
      exact ⟨(by first | (rw [HE.out]; done) | (rw [HE.out]; rfl)), q, rfl⟩
end Go.Proofs.YtoomlpalkinipaaDoor
