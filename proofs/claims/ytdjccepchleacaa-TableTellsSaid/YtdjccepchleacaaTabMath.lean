/- Chapter 6, plain: a table's text, and what is read of one. -/
import Derived.Test.YtdjccepchleacaaBurst
set_option linter.unusedVariables false
namespace Go.Proofs.Ytdjccepchleacaa
namespace Tb
structure Ent where
  key : ByteArray
  value : ByteArray
  gone : Bool
def Ent.zero : Ent := ⟨ByteArray.empty, ByteArray.empty, false⟩
def Ent.cells (e : Ent) : List Value := [.string e.key, .string e.value, .bool e.gone]
def Ent.val (e : Ent) : Value := .agg #[.string e.key, .string e.value, .bool e.gone]
def ba (l : List UInt8) : ByteArray := ⟨l.toArray⟩
theorem ba_list (l : List UInt8) : (ba l).data.toList = l := by simp [ba]
theorem ba_size (l : List UInt8) : (ba l).size = l.length := by show l.toArray.size = _; simp
theorem list_len (s : ByteArray) : s.data.toList.length = s.size := by simp
theorem ext_list {a b : ByteArray} (h : a.data.toList = b.data.toList) : a = b := by cases a; cases b; simpa using h
def vlen (e : Ent) : Nat := if e.gone then 2147483648 else e.value.size
/-- An entry's text. -/
def text (e : Ent) : List UInt8 := Sm.le4 e.key.size ++ Sm.le4 (vlen e) ++ e.key.data.toList ++ e.value.data.toList
def body (l : List Ent) : List UInt8 := l.flatMap text
def mark : List UInt8 := [114, 116, 49, 10]
def pre (l : List Ent) : List UInt8 := mark ++ Sm.le4 l.length ++ Sm.le4 (body l).length ++ body l
/-- A table's text. -/
def bytes (l : List Ent) : List UInt8 := pre l ++ Sm.le4 (Sm.crc (pre l))
def less (a b : ByteArray) : Bool := Op.bytesLess a.toList b.toList
def longF : Nat → List Ent → Bool
  | _, [] => false
  | n, x :: r => decide (128 < x.key.size) || decide (16384 < x.value.size) || decide (524288 < n + (x.key.size + x.value.size)) || longF (n + (x.key.size + x.value.size)) r
def badF : Option Ent → List Ent → Bool
  | _, [] => false
  | p, x :: r => x.key.toList.isEmpty || (x.gone && !x.value.toList.isEmpty) || (match p with | none => false | some y => less x.key y.key || x.key.toList == y.key.toList) || badF (some x) r
/-- What bars a list. -/
def right (l : List Ent) : Nat := if 4096 < l.length then 3 else if longF 0 l then 3 else if badF none l then 1 else 0
/-- The entry at a place, and where the next one is. -/
def readE (s : ByteArray) (p e : Nat) : Option (Ent × Nat) :=
  if e < p + 8 then none else
  let k := Sm.val4 (s.data.toList.drop p)
  let v := Sm.val4 (s.data.toList.drop (p + 4))
  let v' := if v = 2147483648 then 0 else v
  if 128 < k ∨ 16384 < v' ∨ e < p + 8 + k + v' then none
  else some (⟨s.extract (p + 8) (p + 8 + k), s.extract (p + 8 + k) (p + 8 + k + v'), decide (v = 2147483648)⟩, p + 8 + k + v')
/-- The entries from a place on, so many having been read. -/
def parseF (s : ByteArray) (e n : Nat) : Nat → Nat → Nat → Option (List Ent)
  | 0, p, c => if p < e then none else some []
  | f + 1, p, c => if p < e then (match readE s p e with
      | none => none
      | some (x, q) => if n ≤ c then none else (parseF s e n f q (c + 1)).map (x :: ·))
    else some []
/-- What a text opens to. -/
def openE (s : ByteArray) : Option (List Ent) :=
  if 12 ≤ s.size ∧ s.data.toList.take 4 = mark ∧ (s.size : Int) - 4 - 12 = Sm.val4 (s.data.toList.drop 8) ∧ Sm.sumOk s.data.toList = true then
    match parseF s (s.size - 4) (Sm.val4 (s.data.toList.drop 4)) (s.size + 1) 12 0 with
    | none => none
    | some l => if l.length = Sm.val4 (s.data.toList.drop 4) ∧ right l = 0 then some l else none
  else none
theorem le4_len (n : Nat) : (Sm.le4 n).length = 4 := rfl
theorem text_len (e : Ent) : (text e).length = 8 + e.key.size + e.value.size := by
  unfold text
  simp only [List.length_append, le4_len, list_len]
/-- Entries whose lengths are within bounds, and one that is gone has no value. -/
def Fit (e : Ent) : Prop := e.key.size ≤ 128 ∧ e.value.size ≤ 16384 ∧ (e.gone = true → e.value.size = 0)
theorem drop_app {l a r : List UInt8} {p : Nat} (h : l.drop p = a ++ r) : l.drop (p + a.length) = r := by
  rw [← List.drop_drop, h, List.drop_append_of_le_length (Nat.le_refl _), List.drop_length, List.nil_append]
theorem drop_len {l a r : List UInt8} {p : Nat} (h : l.drop p = a ++ r) (ha : 1 ≤ a.length) : p + a.length + r.length = l.length := by
  have := congrArg List.length h
  rw [List.length_drop, List.length_append] at this
  omega
theorem extract_of {s t : ByteArray} {p : Nat} {r : List UInt8} (h : s.data.toList.drop p = t.data.toList ++ r) : s.extract p (p + t.size) = t := by
  refine ext_list ?_
  rw [Lib.extract_data, h, Nat.add_sub_cancel_left, ← list_len t, List.take_append_of_le_length (Nat.le_refl _), List.take_length]
/-- An entry that stands there is read. -/
theorem readE_text {s : ByteArray} {x : Ent} {p e : Nat} {r : List UInt8} (h : s.data.toList.drop p = text x ++ r) (hx : Fit x) (he : p + (text x).length ≤ e) : readE s p e = some (x, p + (text x).length) := by
  obtain ⟨h1, h2, h3⟩ := hx
  rw [text_len] at he ⊢
  have hv : vlen x < 4294967296 ∧ (vlen x = 2147483648 ↔ x.gone = true) := by
    unfold vlen
    split
    · rename_i hg; exact ⟨by decide, by simp [hg]⟩
    · rename_i hg; exact ⟨by omega, by simp [hg]; omega⟩
  have e0 : s.data.toList.drop p = Sm.le4 x.key.size ++ (Sm.le4 (vlen x) ++ (x.key.data.toList ++ (x.value.data.toList ++ r))) := by
    rw [h]; unfold text; simp only [List.append_assoc]
  have d4 := drop_app e0
  have d8 := drop_app d4
  have dk := drop_app d8
  rw [le4_len] at d4 d8 dk
  rw [le4_len, list_len] at dk
  have k1 : Sm.val4 (s.data.toList.drop p) = x.key.size := by rw [e0]; exact Sm.val4_le4 (by omega) _
  have k2 : Sm.val4 (s.data.toList.drop (p + 4)) = vlen x := by rw [d4]; exact Sm.val4_le4 hv.1 _
  have hv' : (if vlen x = 2147483648 then 0 else vlen x) = x.value.size := by
    unfold vlen
    by_cases hg : x.gone = true
    · rw [if_pos hg, if_pos rfl, h3 hg]
    · rw [if_neg hg, if_neg (by omega)]
  unfold readE
  rw [if_neg (by omega)]
  simp only [k1, k2, hv']
  rw [if_neg (by omega)]
  have x1 : s.extract (p + 8) (p + 8 + x.key.size) = x.key := extract_of (p := p + 8) (by rw [show p + 8 = p + 4 + 4 from by omega]; exact d8)
  have x2 : s.extract (p + 8 + x.key.size) (p + 8 + x.key.size + x.value.size) = x.value := extract_of (by rw [show p + 8 + x.key.size = p + 4 + 4 + x.key.size from by omega]; exact dk)
  rw [x1, x2]
  have x3 : decide (vlen x = 2147483648) = x.gone := by
    cases hg : x.gone
    · rw [decide_eq_false_iff_not, hv.2, hg]; simp
    · rw [decide_eq_true_eq, hv.2, hg]
  rw [x3, show p + (8 + x.key.size + x.value.size) = p + 8 + x.key.size + x.value.size from by omega]
/-- Entries one behind the other are read. -/
theorem parseF_body {s : ByteArray} {e n : Nat} : ∀ (l : List Ent) (f p c : Nat) (r : List UInt8), s.data.toList.drop p = body l ++ r → (∀ x ∈ l, Fit x) → e = p + (body l).length → c + l.length ≤ n → l.length ≤ f → parseF s e n f p c = some l
  | [], f, p, c, r, h, hx, he, hn, hf => by
    have : e = p := by simpa [body] using he
    subst this
    cases f <;> simp [parseF]
  | x :: l, 0, p, c, r, h, hx, he, hn, hf => by simp at hf
  | x :: l, f + 1, p, c, r, h, hx, he, hn, hf => by
    have hb : body (x :: l) = text x ++ body l := rfl
    rw [hb, List.append_assoc] at h
    rw [hb, List.length_append] at he
    have ht := text_len x
    simp only [List.length_cons] at hn hf
    have hr := readE_text h (hx x List.mem_cons_self) (show p + (text x).length ≤ e by omega)
    have ih := parseF_body (s := s) (e := e) (n := n) l f (p + (text x).length) (c + 1) r (drop_app h) (fun y hy => hx y (List.mem_cons_of_mem _ hy)) (by omega) (by omega) (by omega)
    unfold parseF
    rw [if_pos (by omega), hr]
    simp only
    rw [if_neg (by omega), ih]
    rfl
end Tb
end Go.Proofs.Ytdjccepchleacaa
