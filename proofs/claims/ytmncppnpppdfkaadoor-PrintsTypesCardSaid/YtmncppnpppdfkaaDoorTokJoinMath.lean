/- Chapter 11, plain: the tokens of a text put behind another one. -/
import Derived.Test.YtmncppnpppdfkaaDoorKT1
import Derived.Test.YtmncppnpppdfkaaDoorKT2
set_option linter.unusedVariables false
namespace Go.Proofs.YtmncppnpppdfkaaDoor
namespace Tk
/-- What stands at a place, in words of what stands from there on. -/
theorem byte_from (s : ByteArray) (k : Nat) : byte s k = ((from_ s k).getD 0 0).toNat := by
  unfold byte from_
  simp [List.getD_eq_getElem?_getD]
theorem extract_eq {s t : ByteArray} {k e k' e' : Nat} (h : (from_ s k).take (e - k) = (from_ t k').take (e' - k')) : s.extract k e = t.extract k' e' := by
  have h1 := Lib.extract_data s k e
  have h2 := Lib.extract_data t k' e'
  unfold from_ at h
  rw [h, ← h2] at h1
  have h3 : (s.extract k e).data = (t.extract k' e').data := Array.toList_inj.1 h1
  cases hs : s.extract k e
  cases ht : t.extract k' e'
  rw [hs, ht] at h3
  simp only at h3
  rw [h3]
theorem num_from (s : ByteArray) (k e : Nat) : num s k e = numOn 0 ((from_ s k).take (e - k)) := by
  unfold num from_
  rw [List.drop_take]
theorem size_from (s : ByteArray) (k : Nat) : (from_ s k).length = s.size - k := by unfold from_; simp
/-- A token, moved. -/
def Tok.move (m : Nat) (t : Tok) : Tok := { t with at_ := m + t.at_ }
theorem scan_ok {d : Nat} {s : ByteArray} {k f : Nat} {acc : List Tok} (h : k < s.size) (he : (oneAt d s k).2 = 0) : scan d s (f + 1) k acc = scan d s f (gapEnd false s (k + (oneAt d s k).1.text.size)) (acc ++ [(oneAt d s k).1]) := by
  rw [scan, if_pos h, if_neg (by simpa using he)]
theorem scan_err {d : Nat} {s : ByteArray} {k f : Nat} {acc : List Tok} (h : k < s.size) (he : (oneAt d s k).2 ≠ 0) : scan d s (f + 1) k acc = ([], k, (oneAt d s k).2) := by
  rw [scan, if_pos h, if_pos he]
section shift
variable {c b : ByteArray} {m : Nat} (hc : ∀ k, from_ c (m + k) = from_ b k) (hz : c.size = m + b.size)
include hc
theorem shift_byte (k : Nat) : byte c (m + k) = byte b k := by rw [byte_from, byte_from, hc]
theorem shift_run (p : Nat → Bool) (k : Nat) : runEnd p c (m + k) = m + runEnd p b k := by unfold runEnd; rw [hc]; omega
theorem shift_gap (g : Bool) (k : Nat) : gapEnd g c (m + k) = m + gapEnd g b k := by unfold gapEnd; rw [hc]; omega
theorem shift_extract (k e : Nat) : c.extract (m + k) (m + e) = b.extract k e := extract_eq (by rw [hc]; congr 1; omega)
theorem shift_num (k e : Nat) : num c (m + k) (m + e) = num b k e := by rw [num_from, num_from, hc]; congr 2; omega
include hz
theorem shift_one (d k : Nat) : oneAt d c (m + k) = ((oneAt d b k).1.move m, (oneAt d b k).2) := by
  unfold oneAt
  dsimp only
  rw [shift_byte hc, Nat.add_assoc, shift_byte hc, shift_run hc, shift_run hc, shift_extract hc, shift_extract hc, shift_extract hc, shift_num hc]
  have e1 : ∀ x, m + x - (m + k) = x - k := fun x => by omega
  have e2 : (m + (k + 1) < c.size) = (k + 1 < b.size) := by rw [hz]; simp
  simp only [e1, e2]
  split
  · rfl
  · split
    · split
      · rfl
      · split <;> rfl
    · split
      · rfl
      · split <;> rfl
theorem shift_scan (d : Nat) (pre : List Tok) : ∀ (f k : Nat) (acc : List Tok), scan d c f (m + k) (pre ++ acc.map (Tok.move m)) =
    if (scan d b f k acc).2.2 ≠ 0 then ([], m + (scan d b f k acc).2.1, (scan d b f k acc).2.2) else (pre ++ (scan d b f k acc).1.map (Tok.move m), 0, 0)
  | 0, k, acc => rfl
  | f + 1, k, acc => by
    by_cases h1 : k < b.size
    · by_cases h2 : (oneAt d b k).2 = 0
      · have ih := shift_scan d pre f (gapEnd false b (k + (oneAt d b k).1.text.size)) (acc ++ [(oneAt d b k).1])
        rw [scan_ok h1 h2, ← ih, scan_ok (by omega) (by rw [shift_one hc hz]; exact h2), shift_one hc hz]
        rw [show m + k + ((oneAt d b k).1.move m).text.size = m + (k + (oneAt d b k).1.text.size) from by unfold Tok.move; simp; omega, shift_gap hc]
        simp
      · rw [scan_err h1 h2, scan_err (by omega) (by rw [shift_one hc hz]; exact h2), shift_one hc hz]
        simp only
        rw [if_pos h2]
    · rw [scan_end h1, scan_end (by omega)]
      simp
end shift
/-- A run, and a gap, where a new line follows. -/
theorem run_app {p : Nat → Bool} {x : UInt8} (hp : p x.toNat = false) (r : List UInt8) : ∀ l : List UInt8, run p (l ++ x :: r) = run p l
  | [] => by simp [run, hp]
  | c :: l => by
    have ih := run_app hp r l
    simp only [List.cons_append, run]
    rw [ih]
theorem gap_false (c : UInt8) (r : List UInt8) : gap false (c :: r) = if isBlank c.toNat then 1 + gap false r else if c.toNat = 47 ∧ r.head?.map UInt8.toNat = some 47 then 1 + gap true r else 0 := by rw [gap]
theorem gap_app (r : List UInt8) : ∀ (g : Bool) (l : List UInt8), gap g (l ++ 10 :: r) = if gap g l = l.length then l.length + 1 + gap false r else gap g l
  | true, [] => by
    rw [List.nil_append, gap_true, if_pos (show (10 : UInt8).toNat = 10 from rfl)]
    simp [gap]
  | false, [] => by rw [List.nil_append, gap_blank10]; simp [gap]
  | true, c :: l => by
    have ih1 := gap_app r false l
    have ih2 := gap_app r true l
    have l1 := gap_le false l
    have l2 := gap_le true l
    rw [List.cons_append, gap_true, gap_true, ih1, ih2]
    simp only [List.length_cons]
    split
    · by_cases h : gap false l = l.length
      · rw [if_pos h, if_pos (by omega)]; omega
      · rw [if_neg h, if_neg (by omega)]
    · by_cases h : gap true l = l.length
      · rw [if_pos h, if_pos (by omega)]; omega
      · rw [if_neg h, if_neg (by omega)]
  | false, c :: l => by
    have ih1 := gap_app r false l
    have ih2 := gap_app r true l
    have l1 := gap_le false l
    have l2 := gap_le true l
    rw [List.cons_append, gap_false, gap_false]
    have hh : (c.toNat = 47 ∧ (l ++ 10 :: r).head?.map UInt8.toNat = some 47) ↔ (c.toNat = 47 ∧ l.head?.map UInt8.toNat = some 47) := by
      cases l with
      | nil => simp
      | cons x l => simp
    rw [ih1, ih2, List.length_cons]
    by_cases hb : isBlank c.toNat = true
    · simp only [hb, if_true]
      by_cases h : gap false l = l.length
      · rw [if_pos h, if_pos (by omega)]; omega
      · rw [if_neg h, if_neg (by omega)]
    · simp only [hb, Bool.false_eq_true, if_false, hh]
      by_cases h2 : c.toNat = 47 ∧ l.head?.map UInt8.toNat = some 47
      · simp only [h2, and_self, if_true]
        by_cases h : gap true l = l.length
        · rw [if_pos h, if_pos (by omega)]; omega
        · rw [if_neg h, if_neg (by omega)]
      · simp only [h2, if_false]
        rw [if_neg (by omega)]
section front
variable {c a : ByteArray} {x : UInt8} {r : List UInt8} (hc : c.data.toList = a.data.toList ++ x :: r)
include hc
theorem front_from {k : Nat} (hk : k ≤ a.size) : from_ c k = from_ a k ++ x :: r := by
  unfold from_; rw [hc, List.drop_append_of_le_length (by simpa using hk)]
theorem front_size : c.size = a.size + 1 + r.length := by
  have := congrArg List.length hc
  simp at this
  omega
theorem front_byte {k : Nat} (hk : k < a.size) : byte c k = byte a k := by
  unfold byte
  rw [hc, List.getD_eq_getElem?_getD, List.getD_eq_getElem?_getD, List.getElem?_append_left (by simpa using hk)]
theorem front_byte_end : byte c a.size = x.toNat := by
  unfold byte
  rw [hc, List.getD_eq_getElem?_getD, List.getElem?_append_right (by simp)]
  simp
theorem front_run {p : Nat → Bool} (hp : p x.toNat = false) {k : Nat} (hk : k ≤ a.size) : runEnd p c k = runEnd p a k := by
  unfold runEnd; rw [front_from hc hk, run_app hp]
theorem front_extract {k e : Nat} (he : e ≤ a.size) : c.extract k e = a.extract k e := by
  by_cases hk : k ≤ a.size
  · refine extract_eq ?_
    rw [front_from hc hk, List.take_append_of_le_length (by rw [size_from]; omega)]
  · refine extract_eq ?_
    rw [show e - k = 0 from by omega]; simp
theorem front_num {k e : Nat} (hk : k ≤ a.size) (he : e ≤ a.size) : num c k e = num a k e := by
  rw [num_from, num_from, front_from hc hk, List.take_append_of_le_length (by rw [size_from]; omega)]
theorem front_one (hi : isInner x.toNat = false) (hd : isDigit x.toNat = false) (h62 : x.toNat ≠ 62) (d : Nat) {k : Nat} (hk : k < a.size) : oneAt d c k = oneAt d a k := by
  have h1 := runEnd_le (p := isInner) (s := a) (k := k + 1) (by omega)
  have h2 := runEnd_le (p := isDigit) (s := a) (k := k + 1) (by omega)
  have h3 := runEnd_ge isDigit a (k + 1)
  unfold oneAt
  dsimp only
  rw [front_byte hc hk, front_run hc hi (by omega), front_run hc hd (by omega), front_extract hc h1, front_extract hc h2, front_num hc (by omega) h2, front_extract hc (by omega)]
  have e : (byte a k = 45 ∧ k + 1 < c.size ∧ byte c (k + 1) = 62) ↔ (byte a k = 45 ∧ k + 1 < a.size ∧ byte a (k + 1) = 62) := by
    by_cases h : k + 1 < a.size
    · rw [front_byte hc h]
      have := front_size hc
      simp only [h, show k + 1 < c.size from by omega, true_and]
    · have e2 : k + 1 = a.size := by omega
      rw [e2, front_byte_end hc]
      constructor
      · rintro ⟨_, _, h4⟩; exact absurd h4 h62
      · rintro ⟨_, h4, _⟩; exact absurd h4 (by omega)
  simp only [e]
theorem front_gap (hx : x = 10) {k : Nat} (hk : k ≤ a.size) : gapEnd false c k = if gapEnd false a k = a.size then gapEnd false c (a.size + 1) else gapEnd false a k := by
  subst hx
  have hl := gap_le false (from_ a k)
  have hs := size_from a k
  unfold gapEnd
  rw [front_from hc hk, gap_app]
  have e : from_ c (a.size + 1) = r := by
    unfold from_
    rw [hc, List.drop_append, List.drop_of_length_le (by simp)]
    simp
  rw [e]
  by_cases h : gap false (from_ a k) = (from_ a k).length
  · rw [if_pos h, if_pos (by omega)]; omega
  · rw [if_neg h, if_neg (by omega)]
end front
/-- Fuel enough is as good as any other. -/
theorem scan_fuel (d : Nat) (s : ByteArray) : ∀ (f k : Nat) (acc : List Tok) (f' : Nat), s.size < f + k → s.size < f' + k → scan d s f k acc = scan d s f' k acc
  | 0, k, acc, f', h, h' => by rw [scan_end (by omega), scan_end (by omega)]
  | f + 1, k, acc, 0, h, h' => by rw [scan_end (by omega), scan_end (by omega)]
  | f + 1, k, acc, f' + 1, h, h' => by
    by_cases h1 : k < s.size
    · by_cases h2 : (oneAt d s k).2 = 0
      · rw [scan_ok h1 h2, scan_ok h1 h2]
        have := oneAt_ok h1 h2
        have hg := gapEnd_ge false s (k + (oneAt d s k).1.text.size)
        exact scan_fuel d s f _ _ f' (by omega) (by omega)
      · rw [scan_err h1 h2, scan_err h1 h2]
    · rw [scan_end h1, scan_end h1]
/-- A text with a new line and another one behind: its own tokens come first. -/
theorem front_scan {c a : ByteArray} {r : List UInt8} (hc : c.data.toList = a.data.toList ++ 10 :: r) (d : Nat) : ∀ (f k : Nat) (acc : List Tok), k ≤ a.size → a.size < f + k →
    ∀ F F', c.size < F + k → c.size < F' + k → scan d c F (gapEnd false c k) acc = if (scan d a f (gapEnd false a k) acc).2.2 ≠ 0 then scan d a f (gapEnd false a k) acc else scan d c F' (gapEnd false c (a.size + 1)) (scan d a f (gapEnd false a k) acc).1
  | f, k, acc, hk, hf, F, F', hF, hF' => by
    have hle := gapEnd_le (s := a) (k := k) false hk
    have hge := gapEnd_ge false a k
    have hsz := front_size hc
    rw [front_gap hc rfl hk]
    by_cases h : gapEnd false a k = a.size
    · have e := scan_end (d := d) (s := a) (k := a.size) (f := f) (acc := acc) (by omega)
      rw [if_pos h, h, e, if_neg (by simp)]
      have := gapEnd_ge false c (a.size + 1)
      exact scan_fuel d c _ _ _ _ (by omega) (by omega)
    · rw [if_neg h]
      generalize hK : gapEnd false a k = K at *
      have hK2 : K < a.size := by omega
      obtain ⟨f, rfl⟩ : ∃ f', f = f' + 1 := ⟨f - 1, by omega⟩
      obtain ⟨F, rfl⟩ : ∃ f', F = f' + 1 := ⟨F - 1, by omega⟩
      have ho := front_one hc (by decide) (by decide) (by decide) d hK2
      by_cases h2 : (oneAt d a K).2 = 0
      · have hok := oneAt_ok hK2 h2
        rw [scan_ok hK2 h2, scan_ok (show K < c.size by omega) (by rw [ho]; exact h2), ho]
        exact front_scan hc d f (K + (oneAt d a K).1.text.size) _ (by omega) (by omega) F F' (by omega) (by omega)
      · rw [scan_err hK2 h2, scan_err (show K < c.size by omega) (by rw [ho]; exact h2), ho]
        simp only
        rw [if_pos h2]
theorem back_from {c a b : ByteArray} {x : UInt8} (hc : c.data.toList = a.data.toList ++ x :: b.data.toList) (k : Nat) : from_ c (a.size + 1 + k) = from_ b k := by
  unfold from_
  rw [hc, List.drop_append, List.drop_of_length_le (by simp; omega), List.nil_append]
  rw [show a.size + 1 + k - a.data.toList.length = k + 1 from by simp; omega, List.drop_succ_cons]
/-- The tokens of both. -/
theorem all_join {c a b : ByteArray} (hc : c.data.toList = a.data.toList ++ 10 :: b.data.toList) (hs : c.size ≤ 65536) :
    all c = if (all a).2.2 ≠ 0 then all a else if (all b).2.2 ≠ 0 then ([], a.size + 1 + (all b).2.1, (all b).2.2) else ((all a).1 ++ (all b).1.map (Tok.move (a.size + 1)), 0, 0) := by
  have hsz := front_size hc
  have hbz : b.data.toList.length = b.size := by simp
  have hA : all a = scan 3 a (a.size + 1) (gapEnd false a 0) [] := by unfold all; rw [if_neg (by omega)]
  have hB : all b = scan 3 b (b.size + 1) (gapEnd false b 0) [] := by unfold all; rw [if_neg (by omega)]
  have hC : all c = scan 3 c (c.size + 1) (gapEnd false c 0) [] := by unfold all; rw [if_neg (by omega)]
  rw [hC, hA, hB, front_scan hc 3 (a.size + 1) 0 [] (by omega) (by omega) (c.size + 1) (c.size + 1) (by omega) (by omega)]
  generalize scan 3 a (a.size + 1) (gapEnd false a 0) [] = ra
  by_cases h : ra.2.2 = 0
  · rw [if_neg (by simpa using h), if_neg (by simpa using h)]
    have e := shift_scan (back_from hc) (by omega) 3 ra.1 (b.size + 1) (gapEnd false b 0) []
    have hg := shift_gap (back_from hc) false 0
    rw [Nat.add_zero] at hg
    rw [hg, ← e]
    simp only [List.map_nil, List.append_nil]
    exact scan_fuel 3 c _ _ _ _ (by omega) (by omega)
  · rw [if_pos h, if_pos h]
end Tk
end Go.Proofs.YtmncppnpppdfkaaDoor
