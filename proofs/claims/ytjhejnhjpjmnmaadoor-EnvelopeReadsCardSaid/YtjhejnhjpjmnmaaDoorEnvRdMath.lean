/- Chapter 17, plain: what the reference reads of bytes is what the program reads. -/
import Derived.Test.YtjhejnhjpjmnmaaDoorEnvFacts
set_option linter.unusedVariables false
namespace Go.Proofs.YtjhejnhjpjmnmaaDoor
open Go.RowKit
namespace Ev
def rnumF (l : List UInt8) : Nat → Nat → Nat × Int
  | 0, _ => (0, -1)
  | f + 1, i => if i < l.length then (if (l.getD i 0).toNat < 128 then (acc l (i + 1), (i : Int) + 1) else rnumF l f (i + 1)) else (0, -1)
/-- The number at a place, and behind it. -/
def rnum (s : ByteArray) (p : Int) : Nat × Int :=
  if p < 0 then (0, -1) else ((rnumF (s.data.toList.drop p.toNat) 10 0).1, if (rnumF (s.data.toList.drop p.toNat) 10 0).2 < 0 then -1 else p + (rnumF (s.data.toList.drop p.toNat) 10 0).2)
/-- The text at a place, and behind it. -/
def rsome (s : ByteArray) (p : Int) : ByteArray × Int :=
  if (rnum s p).2 < 0 ∨ s.size < (rnum s p).2.toNat + (rnum s p).1 then (ByteArray.empty, -1) else (s.extract (rnum s p).2.toNat ((rnum s p).2.toNat + (rnum s p).1), (rnum s p).2 + (rnum s p).1)
theorem rnumF_facts (l : List UInt8) : ∀ f i, (rnumF l f i).1 < 18446744073709551616 ∧ ((rnumF l f i).2 = -1 ∨ (1 ≤ (rnumF l f i).2 ∧ (rnumF l f i).2 ≤ l.length))
  | 0, i => by simp [rnumF]
  | f + 1, i => by
    unfold rnumF
    split
    · split
      · have := acc_lt l (i + 1)
        exact ⟨this, .inr ⟨by simp only; omega, by simp only; omega⟩⟩
      · exact rnumF_facts l f (i + 1)
    · exact ⟨by simp, .inl rfl⟩
theorem rnum_facts (s : ByteArray) (p : Int) (hp : p ≤ s.size) : (rnum s p).1 < 18446744073709551616 ∧ -1 ≤ (rnum s p).2 ∧ (rnum s p).2 ≤ s.size := by
  unfold rnum
  split
  · exact ⟨by decide, by decide, by simp only; omega⟩
  · obtain ⟨h1, h2⟩ := rnumF_facts (s.data.toList.drop p.toNat) 10 0
    have hl : (s.data.toList.drop p.toNat).length = s.size - p.toNat := by rw [List.length_drop, list_len]
    rw [hl] at h2
    refine ⟨h1, ?_⟩
    simp only
    split <;> omega
theorem rsome_facts (s : ByteArray) (p : Int) (hp : p ≤ s.size) : (rsome s p).1.size ≤ s.size ∧ -1 ≤ (rsome s p).2 ∧ (rsome s p).2 ≤ s.size := by
  obtain ⟨h1, h2, h3⟩ := rnum_facts s p hp
  unfold rsome
  split
  · exact ⟨Nat.zero_le _, by decide, by simp only; omega⟩
  · rename_i h
    refine ⟨?_, ?_, ?_⟩
    · simp only [ByteArray.size_extract]; omega
    · simp only; omega
    · simp only; omega
theorem rnumF_of {l : List UInt8} : ∀ {f i : Nat}, 0 < (getvF l f i).2 → rnumF l f i = getvF l f i
  | 0, i, h => by simp [getvF] at h
  | f + 1, i, h => by
    unfold getvF at h ⊢
    unfold rnumF
    split
    · rename_i h1
      rw [if_pos h1] at h
      split
      · rename_i h2
        rw [if_pos h2] at h
        split
        · rename_i h3
          rw [if_pos h3] at h
          simp at h
        · rfl
      · rename_i h2
        rw [if_neg h2] at h
        exact rnumF_of h
    · rename_i h1
      rw [if_neg h1] at h
      simp at h
theorem rnum_var {s : ByteArray} {p y : Nat} {r : List UInt8} (h : s.data.toList.drop p = var y ++ r) (hy : y < 18446744073709551616) : rnum s p = (y, (p : Int) + (var y).length) := by
  have h1 := getv_var y hy r
  have hl := (var_len y).1
  unfold getv at h1
  have h2 := rnumF_of (l := var y ++ r) (f := 10) (i := 0) (by rw [h1]; simp only; omega)
  unfold rnum
  rw [if_neg (by omega), Int.toNat_natCast, h, h2, h1]
  simp only
  rw [if_neg (by omega)]
theorem drop_step {l a r : List UInt8} {p : Nat} (h : l.drop p = a ++ r) : l.drop (p + a.length) = r := by
  rw [← List.drop_drop, h, List.drop_append_of_le_length (Nat.le_refl _), List.drop_length, List.nil_append]
theorem rsome_txt {s t : ByteArray} {p : Nat} {r : List UInt8} (h : s.data.toList.drop p = txt t ++ r) (ht : t.size < 18446744073709551616) : rsome s p = (t, (p : Int) + (txt t).length) := by
  have h0 := h
  unfold txt at h0
  rw [List.append_assoc] at h0
  have h1 := rnum_var h0 ht
  have h2 := drop_step h0
  have hl : s.data.toList.length = s.size := list_len s
  have hlt : t.data.toList.length = t.size := list_len t
  have hz : s.size - (p + (var t.size).length) = t.size + r.length := by
    have := congrArg List.length h2
    rw [List.length_drop, hl, List.length_append, hlt] at this
    exact this
  have hv := (var_len t.size).1
  have hps : p + (var t.size).length ≤ s.size ∨ s.size < p + (var t.size).length := by omega
  have hps2 : p + (var t.size).length ≤ s.size := by
    rcases hps with h | h
    · exact h
    · exfalso
      have h5 := congrArg List.length h0
      rw [List.length_drop, hl, List.length_append] at h5
      omega
  unfold rsome
  rw [h1]
  simp only
  rw [show ((p : Int) + ((var t.size).length : Int)).toNat = p + (var t.size).length from by omega]
  rw [if_neg (by omega)]
  refine Prod.ext ?_ ?_
  · refine ext_list ?_
    rw [Lib.extract_data, h2, Nat.add_sub_cancel_left, ← hlt, List.take_append_of_le_length (Nat.le_refl _), List.take_length]
  · show (p : Int) + ((var t.size).length : Int) + (t.size : Int) = (p : Int) + ((txt t).length : Int)
    unfold txt
    rw [List.length_append, hlt]
    omega
/-- A letter out of bytes, as the reference goes through them. -/
def rparse (h : ByteArray) : Option Letter :=
  if (rsome h (rnum h 3).2).2 < 0 ∨ (h.size : Int) < (rsome h (rnum h 3).2).2 + 8 then none
  else if 999 < (rnum h (rsome h (rsome h ((rsome h (rnum h 3).2).2 + 8)).2).2).1 ∨ (rsome h (rnum h (rsome h (rsome h ((rsome h (rnum h 3).2).2 + 8)).2).2).2).2 ≠ h.size then none
  else some ⟨(h.data.toList.getD 0 0).toNat, (h.data.toList.getD 1 0).toNat, (h.data.toList.getD 2 0).toNat, (rnum h 3).1, (rsome h (rnum h 3).2).1, bigv 0 ((h.data.toList.drop (rsome h (rnum h 3).2).2.toNat).take 8), (rsome h ((rsome h (rnum h 3).2).2 + 8)).1, (rsome h (rsome h ((rsome h (rnum h 3).2).2 + 8)).2).1,
    (rnum h (rsome h (rsome h ((rsome h (rnum h 3).2).2 + 8)).2).2).1, (rsome h (rnum h (rsome h (rsome h ((rsome h (rnum h 3).2).2 + 8)).2).2).2).1⟩
def rread (b : ByteArray) : Letter × Nat :=
  if crcOk b = false then (Letter.zero, 8) else if b.size - 4 < 3 then (Letter.zero, 162)
  else match rparse (b.extract 0 (b.size - 4)) with
    | none => (Letter.zero, 162)
    | some l => if (pack l).2 = 0 ∧ (pack l).1 = b then (l, 0) else (Letter.zero, 162)
theorem rparse_ok {h : ByteArray} {l : Letter} (e : rparse h = some l) (h3 : 3 ≤ h.size) : l.ok := by
  unfold rparse at e
  split at e
  · cases e
  · split at e
    · cases e
    · injection e with e
      subst e
      exact ⟨UInt8.toNat_lt _, (rnum_facts h 3 (by omega)).1, bigv_lt _ _ (by decide)⟩
theorem rparse_head {l : Letter} (hl : l.ok) (hr : right l = true) : rparse (ba (head l)) = some l := by
  obtain ⟨f1, f2, f3, f4, f5, f6, f7, f8, f9⟩ := right_facts hr
  have hsz := right_names hr
  obtain ⟨k0, k1, k2, k3, k4, k5, k6, k7, k8, k9⟩ := l
  obtain ⟨g1, g2, g3⟩ := hl
  simp only at f1 f2 f3 f4 f5 f6 f7 f8 f9 g1 g2 g3 hsz
  obtain ⟨k1, rfl⟩ := Int.eq_ofNat_of_zero_le f1
  obtain ⟨k2, rfl⟩ := Int.eq_ofNat_of_zero_le f3
  obtain ⟨k8, rfl⟩ := Int.eq_ofNat_of_zero_le f5
  have e0 : head ⟨k0, k1, k2, k3, k4, k5, k6, k7, k8, k9⟩ = [UInt8.ofNat k0, UInt8.ofNat k1, UInt8.ofNat k2] ++ (var k3 ++ (txt k4 ++ (big k5 8 ++ (txt k6 ++ (txt k7 ++ (var k8 ++ (txt k9 ++ []))))))) := by
    simp [head]
  have o : ∀ x, x < 256 → (UInt8.ofNat x).toNat = x := fun x hx => by rw [Sm.ofNat_toNat, Nat.mod_eq_of_lt hx]
  have hlen := congrArg List.length e0
  have hsize := ba_size (head ⟨k0, k1, k2, k3, k4, k5, k6, k7, k8, k9⟩)
  generalize hH : ba (head ⟨k0, k1, k2, k3, k4, k5, k6, k7, k8, k9⟩) = H at *
  have hd : H.data.toList = head ⟨k0, k1, k2, k3, k4, k5, k6, k7, k8, k9⟩ := by rw [← hH, ba_list]
  rw [← hd] at e0
  simp only [List.length_append, List.length_cons, List.length_nil, big_len] at hlen
  have d3 : H.data.toList.drop 3 = var k3 ++ (txt k4 ++ (big k5 8 ++ (txt k6 ++ (txt k7 ++ (var k8 ++ (txt k9 ++ [])))))) := by rw [e0]; rfl
  have n3 : rnum H 3 = (k3, (3 : Int) + (var k3).length) := rnum_var d3 g2
  have d4 := drop_step d3
  have n4 := rsome_txt d4 (by omega)
  have d5 := drop_step d4
  have d6 := drop_step d5
  have n6 := rsome_txt d6 (by omega)
  have d7 := drop_step d6
  have n7 := rsome_txt d7 (by omega)
  have d8 := drop_step d7
  have n8 := rnum_var d8 (by omega)
  have d9 := drop_step d8
  have n9 := rsome_txt d9 (by omega)
  have c4 : ((3 + (var k3).length : Nat) : Int) = (3 : Int) + (var k3).length := by omega
  have c6 : ((3 + (var k3).length + (txt k4).length + (big k5 8).length : Nat) : Int) = ((3 + (var k3).length : Nat) : Int) + ((txt k4).length : Int) + 8 := by rw [big_len]; omega
  have c7 : ((3 + (var k3).length + (txt k4).length + (big k5 8).length + (txt k6).length : Nat) : Int) = ((3 + (var k3).length + (txt k4).length + (big k5 8).length : Nat) : Int) + ((txt k6).length : Int) := by omega
  have c8 : ((3 + (var k3).length + (txt k4).length + (big k5 8).length + (txt k6).length + (txt k7).length : Nat) : Int) = ((3 + (var k3).length + (txt k4).length + (big k5 8).length + (txt k6).length : Nat) : Int) + ((txt k7).length : Int) := by omega
  have c9 : ((3 + (var k3).length + (txt k4).length + (big k5 8).length + (txt k6).length + (txt k7).length + (var k8).length : Nat) : Int) = ((3 + (var k3).length + (txt k4).length + (big k5 8).length + (txt k6).length + (txt k7).length : Nat) : Int) + ((var k8).length : Int) := by omega
  unfold rparse
  rw [n3]
  simp only
  rw [← c4, n4]
  simp only
  rw [← c6, n6]
  simp only
  rw [← c7, n7]
  simp only
  rw [← c8, n8]
  simp only
  rw [← c9, n9]
  simp only
  rw [big_len] at *
  have q0 : (H.data.toList.getD 0 0).toNat = k0 := by rw [e0]; exact o k0 g1
  have q1 : (H.data.toList.getD 1 0).toNat = k1 := by rw [e0]; exact o k1 (by omega)
  have q2 : (H.data.toList.getD 2 0).toNat = k2 := by rw [e0]; exact o k2 (by omega)
  have q5 : bigv 0 ((H.data.toList.drop (((3 + (var k3).length : Nat) : Int) + ((txt k4).length : Int)).toNat).take 8) = k5 := by
    rw [show (((3 + (var k3).length : Nat) : Int) + ((txt k4).length : Int)).toNat = 3 + (var k3).length + (txt k4).length from by omega, d5]
    rw [List.take_append_of_le_length (by rw [big_len]; exact Nat.le_refl _), List.take_of_length_le (by rw [big_len]; exact Nat.le_refl _)]
    have hb := bigv_big 8 0 k5 (by simpa using g3) (by simpa using g3)
    rw [Nat.zero_mul, Nat.zero_add] at hb
    exact hb
  rw [if_neg (by omega), if_neg (by omega), q0, q1, q2, q5]
theorem rread_eq (b : ByteArray) : rread b = readP b := by
  unfold rread
  rcases hc : crcOk b with _ | _
  · rw [if_pos rfl, readP_bad hc]
  · rw [if_neg (by simp)]
    have h4 : 4 ≤ b.size := by unfold crcOk at hc; simp only [Bool.and_eq_true, decide_eq_true_eq] at hc; exact hc.1
    have hno : (∀ l : Letter, l.ok → pack l ≠ (b, 0)) → readP b = (Letter.zero, 162) := fun h => readP_none hc (fun l hl hr hb => h l hl (by rw [pack_yes hr]; exact congrArg (·, 0) hb)) (parse_ok _)
    rcases readP_cases b with ⟨r, hrd, hok, hri, hpk⟩ | ⟨n, hrd, hn⟩
    · have hb : b = ba (bytes r) := by rw [pack_yes hri] at hpk; injection hpk with h1 h2; exact h1.symm
      have hx := (crcOk_bytes r).2
      rw [← hb] at hx
      have hz : (b.extract 0 (b.size - 4)).size = (head r).length := by rw [hx, ba_size]
      have hz2 : (b.extract 0 (b.size - 4)).size = b.size - 4 := by simp
      have h3 : 3 ≤ (head r).length := by unfold head; simp only [List.length_append, List.length_cons]; omega
      rw [if_neg (by omega), hx, rparse_head hok hri]
      simp only
      rw [hpk, if_pos ⟨rfl, rfl⟩, hrd]
    · have hall : ∀ l : Letter, l.ok → pack l ≠ (b, 0) := fun l hl hp => by
        cases hri : right l with
        | false => rw [pack_no hri] at hp; cases hp
        | true =>
          have hb : b = ba (bytes l) := by rw [pack_yes hri] at hp; injection hp with h1 h2; exact h1.symm
          have := readP_bytes hl hri
          rw [← hb, hrd] at this
          injection this with _ h2
          omega
      rw [hno hall]
      split
      · rfl
      · rename_i h3
        split
        · rfl
        · rename_i l hl
          rw [if_neg]
          rintro ⟨h5, h6⟩
          exact hall l (rparse_ok hl (by simp; omega)) (Prod.ext h6 h5)
end Ev
end Go.Proofs.YtjhejnhjpjmnmaaDoor
