/- The document's side: text, step, name. -/
import Derived.Test.YtoomlpalkinipaaDoorIdlO
set_option linter.unusedVariables false
set_option linter.unusedSimpArgs false
namespace Go.Proofs.YtoomlpalkinipaaDoor
open Go.RowKit
namespace Id
/-- The index that a state stands at. -/
def At (l : List Tk.Tok) (i : Int) (s : St) : Prop := ∃ k : Nat, k ≤ l.length ∧ s.1 = l.drop k ∧ i = if s.2 then -1 - (k : Int) else (k : Int)
def word (s : St) : ByteArray := if s.2 then ⟨#[]⟩ else match s.1 with
  | [] => ⟨#[]⟩
  | t :: _ => if t.kind = 2 then ⟨#[]⟩ else t.text
theorem At.cases {l : List Tk.Tok} {i : Int} {s : St} (h : At l i s) : (s.2 = true ∧ i < 0 ∧ -1 - (l.length : Int) ≤ i) ∨ (s = ([], false) ∧ i = l.length) ∨ (∃ (k : Nat) (hk : k < l.length), s = (l[k] :: l.drop (k + 1), false) ∧ i = k) := by
  obtain ⟨k, hk, e, hi⟩ := h
  obtain ⟨r, bad⟩ := s
  simp only at e hi
  subst e
  cases bad
  · simp only [Bool.false_eq_true, if_false] at hi
    rcases Nat.lt_or_ge k l.length with hlt | hge
    · exact .inr (.inr ⟨k, hlt, by rw [List.drop_eq_getElem_cons hlt], hi⟩)
    · obtain rfl : k = l.length := by omega
      exact .inr (.inl ⟨by rw [List.drop_length], hi⟩)
  · simp only [if_true] at hi
    exact .inl ⟨rfl, by omega, by omega⟩
theorem At.zero (l : List Tk.Tok) : At l 0 (l, false) := ⟨0, Nat.zero_le _, rfl, rfl⟩
/-- A fault here. -/
theorem At.fault {l : List Tk.Tok} {k : Int} {r : List Tk.Tok} (h : At l k (r, false)) : At l (-1 - k) (r, true) := by
  obtain ⟨j, hj, e, hi⟩ := h
  exact ⟨j, hj, e, by simp at hi ⊢; omega⟩
theorem At.next {l : List Tk.Tok} {k : Int} {t : Tk.Tok} {r : List Tk.Tok} (h : At l k (t :: r, false)) : At l (k + 1) (r, false) := by
  obtain ⟨j, hj, e, hi⟩ := h
  simp only at e
  refine ⟨j + 1, ?_, ?_, by simp at hi ⊢; omega⟩
  · rcases Nat.lt_or_ge j l.length with h1 | h1
    · exact h1
    · rw [List.drop_of_length_le h1] at e; cases e
  · have : (l.drop j).tail = r := by rw [← e]; rfl
    rw [← this, List.tail_drop]
theorem At.bad {l : List Tk.Tok} {i : Int} {s : St} (h : At l i s) (hb : s.2 = true) : i < 0 := by
  obtain ⟨k, hk, e, hi⟩ := h
  rw [hb, if_pos rfl] at hi
  omega
theorem At.good {l : List Tk.Tok} {i : Int} {s : St} (h : At l i s) (hb : s.2 = false) : 0 ≤ i ∧ i ≤ l.length := by
  obtain ⟨k, hk, e, hi⟩ := h
  rw [hb] at hi
  simp at hi
  omega
theorem is_word {s : St} {x : ByteArray} (hx : x.toList ≠ []) : is s x = ((word s).toList == x.toList) := by
  obtain ⟨l, bad⟩ := s
  have e0 : (⟨#[]⟩ : ByteArray).toList = [] := empty_toList
  have e1 : (([] : List UInt8) == x.toList) = false := by rw [beq_eq_false_iff_ne]; exact Ne.symm hx
  cases bad
  · cases l with
    | nil => unfold is word; simp [e0, e1]
    | cons t r =>
      unfold is word
      by_cases hk : t.kind = 2
      · simp [hk, e0, e1]
      · simp [hk]
  · unfold is word; simp [e0, e1]
end Id
set_option maxRecDepth 100000 in
set_option maxHeartbeats 4000000 in
theorem rtext_any' (A : Option Addr) (l : List Tk.Tok) (c : Nat) (hl : l.length ≤ 1000000) (i : Int) (s : Id.St) (ha : Id.At l i s) (w : World) (hr : Tk.ReadT w A l) :
    Calls Tryd.prog 43 #[.slice A l.length c, .int .i64 i] w fun e w' => e = .returned (.string (Id.word s)) ∧ w' = w := by
  rcases ha.cases with ⟨hb, hi, hi2⟩ | ⟨rfl, rfl⟩ | ⟨k, hk, rfl, rfl⟩
  · have HE : Hid (Id.word s = ⟨#[]⟩) := Lib.hid (by unfold Id.word; rw [hb]; rfl)
    have hi3 : decide (i < 0) = true := by simpa using hi
    clear hb
    go_enter Tryd.func43, Tryd.ntmps43
    go_wp2_with fail
    go_ret
    exact ⟨(by first | (rw [HE.out]; done) | (rw [HE.out]; rfl)), rfl⟩
  · obtain ⟨n, hn⟩ : ∃ n, n = l.length := ⟨_, rfl⟩
    rw [← hn]
    clear hr ha hn hl
    go_enter Tryd.func43, Tryd.ntmps43
    go_wp2_with fail
    go_ret
    exact ⟨rfl, rfl⟩
  · obtain ⟨g, off, rfl, hcs⟩ := hr (by omega)
    obtain ⟨t0, t1, t2, t3⟩ := hcs k hk
    obtain ⟨t, ht⟩ : ∃ t, t = l[k] := ⟨_, rfl⟩
    rw [← ht] at t0 t1 t2 t3 ⊢
    obtain ⟨n, hn⟩ : ∃ n, n = l.length := ⟨_, rfl⟩
    rw [← hn] at hk ⊢
    have i1 : (0 : Int) ≤ (k : Int) := by omega
    have i2 : (k : Int) < (n : Int) := by omega
    have i3 : ¬ (k : Int) < 0 := by omega
    clear hcs hr ha hn ht hl
    obtain ⟨tk, tt, tn, ta⟩ := t
    simp only at t0 t1 t2 t3
    by_cases hk2 : tk = 2
    · have HE : Hid (Id.word (⟨tk, tt, tn, ta⟩ :: l.drop (k + 1), false) = ⟨#[]⟩) := Lib.hid (by simp [Id.word, hk2])
      subst hk2
      go_enter Tryd.func43, Tryd.ntmps43
      go_wp2_with fail
      go_ret
      exact ⟨(by first | (rw [HE.out]; done) | (rw [HE.out]; rfl)), rfl⟩
    · have HE : Hid (Id.word (⟨tk, tt, tn, ta⟩ :: l.drop (k + 1), false) = tt) := Lib.hid (by simp [Id.word, hk2])
      have tk2 : ((tk : Int) == 2) = false := by rw [beq_eq_false_iff_ne]; omega
      clear hk2
      go_enter Tryd.func43, Tryd.ntmps43
      go_wp2_with fail
      go_ret
      exact ⟨(by first | (rw [HE.out]; done) | (rw [HE.out]; rfl)), rfl⟩
set_option maxRecDepth 100000 in
set_option maxHeartbeats 4000000 in
theorem rstep_any (A : Option Addr) (l : List Tk.Tok) (c : Nat) (hl : l.length ≤ 1000000) (i : Int) (s : Id.St) (ha : Id.At l i s) (x : ByteArray) (hx : x.toList ≠ []) (w : World) (hr : Tk.ReadT w A l) :
    Calls Tryd.prog 41 #[.slice A l.length c, .int .i64 i, .string x] w fun e w' => ∃ i', e = .returned (.int .i64 i') ∧ Id.At l i' (Id.want s x) ∧ w' = w := by
  have HC := Lib.hid (rtext_any' A l c hl i s ha w hr)
  have HA := Lib.hid ha
  have hw := Id.is_word (s := s) hx
  by_cases hb : s.2 = true
  · have hi := ha.bad hb
    have HE : Hid (Id.want s x = s) := Lib.hid (by obtain ⟨r, b⟩ := s; simp only at hb; subst hb; rfl)
    have hi3 : decide (i < 0) = true := by simpa using hi
    clear ha hr hl hw
    generalize l.length = n at *
    go_enter Tryd.func41, Tryd.ntmps41
    go_wp2_with fail
    go_ret
    exact ⟨_, rfl, by rw [HE.out]; exact HA.out, rfl⟩
  · obtain ⟨r, bad⟩ := s
    simp only [Bool.not_eq_true] at hb
    subst hb
    obtain ⟨hi1, hi2⟩ := ha.good rfl
    have hi3 : decide (i < 0) = false := by simp; omega
    have hi4 : ¬ i < 0 := by omega
    have hi5 : i ≤ 1000000 := by omega
    obtain ⟨n, hn⟩ : ∃ n, n = l.length := ⟨_, rfl⟩
    rw [← hn] at HC ⊢
    obtain ⟨q, hq⟩ : ∃ q, Id.is (r, false) x = q := ⟨_, rfl⟩
    have HQ := Lib.hid hq
    have hw2 : ((Id.word (r, false)).toList == x.toList) = q := by rw [← hw, hq]
    clear ha hr hl hw hn hi2 hq
    generalize Id.word (r, false) = y at *
    cases q
    · have HE : Hid (Id.want (r, false) x = (r, true)) := Lib.hid (by unfold Id.want; rw [HQ.out]; rfl)
      go_enter Tryd.func41, Tryd.ntmps41
      go_wp2_with fail
      refine (HC.out).mono ?_
      rintro e w' ⟨rfl, hw⟩
      obtain rfl := hw.symm
      go_wp2_with fail
      go_ret
      exact ⟨_, rfl, by rw [HE.out]; exact HA.out.fault, rfl⟩
    · obtain ⟨t, r', hr'⟩ := Id.is_cons HQ.out
      injection hr' with hr' _
      subst hr'
      have HE : Hid (Id.want (t :: r', false) x = (r', false)) := Lib.hid (by unfold Id.want; rw [HQ.out]; rfl)
      go_enter Tryd.func41, Tryd.ntmps41
      go_wp2_with fail
      refine (HC.out).mono ?_
      rintro e w' ⟨rfl, hw⟩
      obtain rfl := hw.symm
      go_wp2_with fail
      go_ret
      exact ⟨_, rfl, by rw [HE.out]; exact HA.out.next, rfl⟩
end Go.Proofs.YtoomlpalkinipaaDoor
