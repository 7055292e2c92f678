/- Chapter 11: what the tokens of a text are, in plain Lean. -/
import Derived.Test.YtoomlpalkinipaaDoorBase
set_option linter.unusedVariables false
namespace Go.Proofs.YtoomlpalkinipaaDoor
namespace Tk
/-- Letters, digits, what may stand within a word, signs, blanks: of a byte's number. -/
def isLetter (x : Nat) : Bool := decide (97 ≤ x) && decide (x ≤ 122) || decide (65 ≤ x) && decide (x ≤ 90)
def isDigit (x : Nat) : Bool := decide (48 ≤ x) && decide (x ≤ 57)
def isInner (x : Nat) : Bool := isLetter x || isDigit x || decide (x = 95)
def isSign (x : Nat) : Bool := decide (x = 123) || decide (x = 125) || decide (x = 40) || decide (x = 41) || decide (x = 59) || decide (x = 58) || decide (x = 44) || decide (x = 46)
def isBlank (x : Nat) : Bool := decide (x = 32) || decide (x = 9) || decide (x = 10) || decide (x = 13)
theorem or32_letter : ∀ x, x < 256 → (decide (97 ≤ x ||| 32) && decide (x ||| 32 ≤ 122)) = isLetter x := by decide +kernel
theorem or32_lt : ∀ x, x < 256 → x ||| 32 < 256 := by decide +kernel
/-- How many bytes of a list the gap has that it begins with; `true`: within a remark. -/
def gap : Bool → List UInt8 → Nat
  | _, [] => 0
  | false, c :: r => if isBlank c.toNat then 1 + gap false r else if c.toNat = 47 ∧ r.head?.map UInt8.toNat = some 47 then 1 + gap true r else 0
  | true, c :: r => if c.toNat = 10 then 1 + gap false r else 1 + gap true r
theorem gap_le : ∀ (b : Bool) (l : List UInt8), gap b l ≤ l.length
  | _, [] => by simp [gap]
  | false, c :: r => by
    have h1 := gap_le false r
    have h2 := gap_le true r
    unfold gap; simp only [List.length_cons]
    split
    · omega
    · split <;> omega
  | true, c :: r => by
    have h1 := gap_le false r
    have h2 := gap_le true r
    unfold gap; simp only [List.length_cons]
    split <;> omega
/-- A run: the bytes that are such, from the start. -/
def run (p : Nat → Bool) : List UInt8 → Nat
  | [] => 0
  | c :: r => if p c.toNat then 1 + run p r else 0
theorem run_le (p : Nat → Bool) : ∀ (l : List UInt8), run p l ≤ l.length
  | [] => by simp [run]
  | c :: r => by
    have h := run_le p r
    unfold run; simp only [List.length_cons]
    split <;> omega
/-- The number that digits tell. -/
def numOn (n : Nat) (l : List UInt8) : Nat := l.foldl (fun n c => 10 * n + (c.toNat - 48)) n
/-- A text's bytes from a place. -/
def from_ (s : ByteArray) (k : Nat) : List UInt8 := s.data.toList.drop k
theorem from_cons {s : ByteArray} {k : Nat} (h : k < s.size) : from_ s k = s[k] :: from_ s (k + 1) := by
  unfold from_
  rw [List.drop_eq_getElem_cons (by simpa using h)]
  rfl
theorem from_end {s : ByteArray} {k : Nat} (h : s.size ≤ k) : from_ s k = [] := List.drop_of_length_le (by simpa using h)
/-- Where the gap ends that begins at a place. -/
def gapEnd (b : Bool) (s : ByteArray) (k : Nat) : Nat := k + gap b (from_ s k)
theorem gapEnd_end {s : ByteArray} {k : Nat} (b : Bool) (h : s.size ≤ k) : gapEnd b s k = k := by
  unfold gapEnd; rw [from_end h]; cases b <;> simp [gap]
theorem gapEnd_blank {s : ByteArray} {k : Nat} (h : k < s.size) (hb : isBlank s[k].toNat = true) : gapEnd false s k = gapEnd false s (k + 1) := by
  unfold gapEnd; rw [from_cons h]; simp only [gap, hb, if_true]; omega
theorem gapEnd_stop {s : ByteArray} {k : Nat} (h : k < s.size) (hb : isBlank s[k].toNat = false) (h2 : ¬ (s[k].toNat = 47 ∧ ∃ h' : k + 1 < s.size, s[k + 1].toNat = 47)) : gapEnd false s k = k := by
  unfold gapEnd; rw [from_cons h]; simp only [gap, hb]
  rw [if_neg (by simp), if_neg]
  · rfl
  · rintro ⟨e1, e2⟩
    apply h2
    refine ⟨e1, ?_⟩
    by_cases h' : k + 1 < s.size
    · rw [from_cons h'] at e2
      exact ⟨h', by simpa using e2⟩
    · rw [from_end (by omega)] at e2
      simp at e2
theorem gapEnd_remark {s : ByteArray} {k : Nat} (h : k < s.size) (h' : k + 1 < s.size) (e1 : s[k].toNat = 47) (e2 : s[k + 1].toNat = 47) : gapEnd false s k = gapEnd true s k := by
  unfold gapEnd; rw [from_cons h]; simp only [gap]
  rw [if_neg (by rw [e1]; decide), if_pos, if_neg (by omega)]
  rw [from_cons h']
  exact ⟨e1, by simp [e2]⟩
theorem gapEnd_on {s : ByteArray} {k : Nat} (h : k < s.size) (e : s[k].toNat ≠ 10) : gapEnd true s k = gapEnd true s (k + 1) := by
  unfold gapEnd; rw [from_cons h]; simp only [gap]; rw [if_neg e]; omega
theorem gapEnd_line {s : ByteArray} {k : Nat} (h : k < s.size) (e : s[k].toNat = 10) : gapEnd true s k = gapEnd false s k := by
  unfold gapEnd; rw [from_cons h]; simp only [gap]; rw [if_pos e, if_pos (by rw [e]; decide)]
theorem gapEnd_le {s : ByteArray} {k : Nat} (b : Bool) (h : k ≤ s.size) : gapEnd b s k ≤ s.size := by
  have := gap_le b (from_ s k)
  unfold gapEnd
  unfold from_ at this ⊢
  simp at this
  omega
theorem gapEnd_ge (b : Bool) (s : ByteArray) (k : Nat) : k ≤ gapEnd b s k := by unfold gapEnd; omega
/-- Where a run ends that begins at a place. -/
def runEnd (p : Nat → Bool) (s : ByteArray) (k : Nat) : Nat := k + run p (from_ s k)
theorem runEnd_end {p : Nat → Bool} {s : ByteArray} {k : Nat} (h : s.size ≤ k) : runEnd p s k = k := by
  unfold runEnd; rw [from_end h]; simp [run]
theorem runEnd_on {p : Nat → Bool} {s : ByteArray} {k : Nat} (h : k < s.size) (e : p s[k].toNat = true) : runEnd p s k = runEnd p s (k + 1) := by
  unfold runEnd; rw [from_cons h]; simp only [run, e, if_true]; omega
theorem runEnd_stop {p : Nat → Bool} {s : ByteArray} {k : Nat} (h : k < s.size) (e : p s[k].toNat = false) : runEnd p s k = k := by
  unfold runEnd; rw [from_cons h]; simp [run, e]
theorem runEnd_le {p : Nat → Bool} {s : ByteArray} {k : Nat} (h : k ≤ s.size) : runEnd p s k ≤ s.size := by
  have := run_le p (from_ s k)
  unfold runEnd
  unfold from_ at this ⊢
  simp at this
  omega
theorem runEnd_ge (p : Nat → Bool) (s : ByteArray) (k : Nat) : k ≤ runEnd p s k := by unfold runEnd; omega
/-- The byte at a place, as a number. -/
def byte (s : ByteArray) (k : Nat) : Nat := (s.data.toList.getD k 0).toNat
theorem byte_eq {s : ByteArray} {k : Nat} (h : k < s.size) : byte s k = s[k].toNat := by
  unfold byte
  rw [List.getD_eq_getElem?_getD, List.getElem?_eq_getElem (by simpa using h)]
  rfl
/-- A token. -/
structure Tok where
  kind : Nat
  text : ByteArray
  num : Nat
  at_ : Nat
/-- A token's value. -/
def Tok.val (t : Tok) : Value := .agg #[.int .u8 t.kind, .string t.text, .int .i64 t.num, .int .i64 t.at_]
def arrow : ByteArray := ⟨#[45, 62]⟩
def empty : ByteArray := ⟨#[]⟩
/-- The number that the digits tell that stand from a place to another one. -/
def num (s : ByteArray) (k e : Nat) : Nat := numOn 0 ((s.data.toList.take e).drop k)
/-- The token at a place, and its fault's number (0: none). `d`: the kind of no token at all. -/
def oneAt (d : Nat) (s : ByteArray) (k : Nat) : Tok × Nat :=
  if isLetter (byte s k) then
    let e := runEnd isInner s (k + 1)
    (⟨1, s.extract k e, 0, k⟩, if 32 < e - k then 3 else 0)
  else if isDigit (byte s k) then
    let e := runEnd isDigit s (k + 1)
    if 9 < e - k then (⟨2, s.extract k e, 0, k⟩, 3)
    else if byte s k = 48 ∧ 1 < e - k then (⟨2, s.extract k e, 0, k⟩, 110)
    else (⟨2, s.extract k e, num s k e, k⟩, 0)
  else if isSign (byte s k) then (⟨3, s.extract k (k + 1), 0, k⟩, 0)
  else if byte s k = 45 ∧ k + 1 < s.size ∧ byte s (k + 1) = 62 then (⟨3, arrow, 0, k⟩, 0)
  else (⟨d, empty, 0, k⟩, 110)
end Tk
end Go.Proofs.YtoomlpalkinipaaDoor
