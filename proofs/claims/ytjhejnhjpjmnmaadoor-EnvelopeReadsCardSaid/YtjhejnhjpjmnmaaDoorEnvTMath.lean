/- Chapter 17, plain: what is read of bytes; a right letter's bytes are read as the letter. -/
import Derived.Test.YtjhejnhjpjmnmaaDoorEnvS
import Derived.Test.YtjhejnhjpjmnmaaDoorEnvP
set_option linter.unusedVariables false
namespace Go.Proofs.YtjhejnhjpjmnmaaDoor
namespace Ev
def ba (l : List UInt8) : ByteArray := ⟨l.toArray⟩
theorem ba_list (l : List UInt8) : (ba l).data.toList = l := by simp [ba]
theorem ba_size (l : List UInt8) : (ba l).size = l.length := by show l.toArray.size = _; simp
theorem ba_eq {s : ByteArray} {l : List UInt8} (h : s.data.toList = l) : s = ba l := str_eq h
theorem list_len (s : ByteArray) : s.data.toList.length = s.size := by simp
theorem ext_list {a b : ByteArray} (h : a.data.toList = b.data.toList) : a = b := by
  rw [ba_eq (s := a) h, ← ba_eq (s := b) rfl]
/-- A letter out of bytes, and whether a fault was met. -/
def parse (h : ByteArray) : Letter × Bool :=
  let a1 := one (h, false)
  let a2 := one a1.2
  let a3 := one a2.2
  let a4 := num a3.2
  let a5 := rtxt a4.2
  let a6 := tk 8 a5.2
  let a7 := rtxt a6.2
  let a8 := rtxt a7.2
  let a9 := num a8.2
  let a10 := rtxt a9.2
  (⟨a1.1, a2.1, a3.1, a4.1, a5.1, if a6.2.2 then 0 else bigv 0 a6.1.data.toList, a7.1, a8.1, min (a9.1 : Int) 1000, a10.1⟩, a10.2.2)
def crcOk (b : ByteArray) : Bool := decide (4 ≤ b.size) && decide (Sm.crc (b.data.toList.take (b.size - 4)) = Sm.val4 (b.data.toList.drop (b.size - 4)))
/-- What is read of bytes. -/
def readP (b : ByteArray) : Letter × Nat :=
  if crcOk b then
    let r := parse (b.extract 0 (b.size - 4))
    if r.2 = false ∧ right r.1 = true ∧ ba (bytes r.1) = b then (r.1, 0) else (Letter.zero, 162)
  else (Letter.zero, 8)
theorem tk_list {n : Nat} {x r : List UInt8} (h : x.length = n) : tk n (ba (x ++ r), false) = (ba x, (ba r, false)) := by
  rw [tk_ok (by rw [ba_size, List.length_append]; omega)]
  have e1 : (ba (x ++ r)).extract 0 n = ba x := ba_eq (by rw [Lib.extract_data, ba_list, List.drop_zero, Nat.sub_zero, ← h, List.take_append_of_le_length (Nat.le_refl _), List.take_length])
  have e2 : (ba (x ++ r)).extract n (ba (x ++ r)).size = ba r := ba_eq (by
    rw [Lib.extract_data, ba_list, ba_size, ← h, List.drop_append_of_le_length (Nat.le_refl _), List.drop_length, List.nil_append, List.length_append, Nat.add_sub_cancel_left, List.take_length])
  rw [e1, e2]
theorem one_list (c : UInt8) (r : List UInt8) : one (ba (c :: r), false) = (c.toNat, (ba r, false)) := by
  have h := tk_list (n := 1) (x := [c]) (r := r) rfl
  rw [List.singleton_append] at h
  unfold one
  rw [h]
  simp [ba_list]
theorem num_list (y : Nat) (hy : y < 18446744073709551616) (r : List UInt8) : num (ba (var y ++ r), false) = (y, (ba r, false)) := by
  have hl := (var_len y).1
  have h := tk_list (n := (var y).length) (x := var y) (r := r) rfl
  unfold num
  simp only [ba_list]
  rw [getv_var y hy, if_neg (by rintro (h | h) <;> first | cases h | (simp only at h; omega))]
  simp only [Int.toNat_natCast]
  rw [h]
theorem rtxt_list (s : ByteArray) (hs : s.size < 18446744073709551616) (r : List UInt8) : rtxt (ba (txt s ++ r), false) = (s, (ba r, false)) := by
  unfold rtxt txt
  rw [List.append_assoc, num_list _ hs, tk_list (by simp)]
  rw [← ba_eq (s := s) rfl]
theorem size_of_empty {t : ByteArray} (h : t.toList.isEmpty = true) : t.size = 0 := by
  have e2 : t.toList = ByteArray.empty.toList := by rw [List.isEmpty_iff.1 h]; decide +kernel
  rw [Tk.text_eq e2]
  rfl
theorem size_of_name {t : ByteArray} (h : Tk.isName t = true) : t.size ≤ 32 := by
  rcases Nat.lt_or_ge 32 t.size with h' | h'
  · rw [Tk.isName_short (.inr h')] at h; cases h
  · exact h'
theorem right_names {l : Letter} (h : right l = true) : l.svc.size ≤ 32 ∧ l.mth.size ≤ 32 := by
  unfold right at h
  by_cases h1 : l.kind = 1 ∨ l.kind = 3
  · rw [if_pos h1] at h
    simp only [Bool.and_eq_true] at h
    exact ⟨size_of_name h.2.1.1.1, size_of_name h.2.1.1.2⟩
  · rw [if_neg h1] at h
    by_cases h2 : l.kind = 2 ∨ l.kind = 4
    · rw [if_pos h2] at h
      simp only [Bool.and_eq_true] at h
      have e1 := size_of_empty h.2.1.1.1
      have e2 := size_of_empty h.2.1.1.2
      omega
    · rw [if_neg h2] at h
      simp at h
/-- A right letter's bytes are read as the letter. -/
theorem parse_head {l : Letter} (hl : l.ok) (hr : right l = true) : parse (ba (head l)) = (l, false) := by
  obtain ⟨f1, f2, f3, f4, f5, f6, f7, f8, f9⟩ := right_facts hr
  obtain ⟨k0, k1, k2, k3, k4, k5, k6, k7, k8, k9⟩ := l
  obtain ⟨g1, g2, g3⟩ := hl
  simp only at f1 f2 f3 f4 f5 f6 f7 f8 f9 g1 g2 g3
  have hsz : k6.size < 18446744073709551616 ∧ k7.size < 18446744073709551616 := by
    have := right_names hr
    simp only at this
    omega
  obtain ⟨k1, rfl⟩ := Int.eq_ofNat_of_zero_le f1
  obtain ⟨k2, rfl⟩ := Int.eq_ofNat_of_zero_le f3
  obtain ⟨k8, rfl⟩ := Int.eq_ofNat_of_zero_le f5
  have e0 : head ⟨k0, k1, k2, k3, k4, k5, k6, k7, k8, k9⟩ = UInt8.ofNat k0 :: (UInt8.ofNat k1 :: (UInt8.ofNat k2 :: (var k3 ++ (txt k4 ++ (big k5 8 ++ (txt k6 ++ (txt k7 ++ (var k8 ++ (txt k9 ++ []))))))))) := by
    simp [head]
  have o : ∀ x, x < 256 → (UInt8.ofNat x).toNat = x := fun x hx => by rw [Sm.ofNat_toNat, Nat.mod_eq_of_lt hx]
  have hb := bigv_big 8 0 k5 (by simpa using g3) (by simpa using g3)
  rw [Nat.zero_mul, Nat.zero_add] at hb
  unfold parse
  rw [e0]
  simp only [one_list, num_list k3 g2, rtxt_list k4 (by omega), tk_list (big_len k5 8), rtxt_list k6 hsz.1, rtxt_list k7 hsz.2, num_list k8 (by omega), rtxt_list k9 (by omega), ba_list, hb, o k0 g1, o k1 (by omega), o k2 (by omega)]
  rw [Int.min_eq_left (by omega)]
  simp
theorem crcOk_bytes (l : Letter) : crcOk (ba (bytes l)) = true ∧ (ba (bytes l)).extract 0 ((ba (bytes l)).size - 4) = ba (head l) := by
  have hl4 : (Sm.le4 (Sm.crc (head l))).length = 4 := rfl
  have hsz : (ba (bytes l)).size = (head l).length + 4 := by rw [ba_size, bytes, List.length_append, hl4]
  have hv := Sm.val4_le4 (Sm.crc_lt (head l)) []
  rw [List.append_nil] at hv
  constructor
  · unfold crcOk
    rw [hsz, Nat.add_sub_cancel, ba_list, bytes, List.take_append_of_le_length (Nat.le_refl _), List.take_length, List.drop_append_of_le_length (Nat.le_refl _), List.drop_length, List.nil_append, hv]
    simp
  · refine ba_eq ?_
    rw [Lib.extract_data, hsz, Nat.add_sub_cancel, ba_list, List.drop_zero, Nat.sub_zero, bytes, List.take_append_of_le_length (Nat.le_refl _), List.take_length]
/-- Of a right letter's bytes the letter is read. -/
theorem readP_bytes {l : Letter} (hl : l.ok) (hr : right l = true) : readP (ba (bytes l)) = (l, 0) := by
  obtain ⟨h1, h2⟩ := crcOk_bytes l
  unfold readP
  rw [if_pos h1, h2, parse_head hl hr]
  simp [hr]
theorem readP_none {b : ByteArray} (hc : crcOk b = true) (h : ∀ l : Letter, l.ok → right l = true → ba (bytes l) ≠ b) (hp : (parse (b.extract 0 (b.size - 4))).1.ok) : readP b = (Letter.zero, 162) := by
  unfold readP
  rw [if_pos hc]
  simp only
  rw [if_neg]
  rintro ⟨_, h2, h3⟩
  exact h _ hp h2 h3
theorem readP_bad {b : ByteArray} (hc : crcOk b = false) : readP b = (Letter.zero, 8) := by
  unfold readP
  rw [if_neg (by simp [hc])]
end Ev
end Go.Proofs.YtjhejnhjpjmnmaaDoor
