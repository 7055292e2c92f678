/- Chapter 6, plain: what was built is opened; what is cut, longer or spoilt is not; what is opened is right. -/
import Derived.Test.YtdjccepchleacaaTabMath
set_option linter.unusedVariables false
namespace Go.Proofs.Ytdjccepchleacaa
namespace Tb
def sumLen : List Ent → Nat
  | [] => 0
  | x :: r => x.key.size + x.value.size + sumLen r
theorem longF_no : ∀ {l : List Ent} {n : Nat}, longF n l = false → (∀ x ∈ l, x.key.size ≤ 128 ∧ x.value.size ≤ 16384) ∧ (n ≤ 524288 → n + sumLen l ≤ 524288)
  | [], n, _ => ⟨fun x hx => (by cases hx), fun h => h⟩
  | x :: r, n, h => by
    unfold longF at h
    simp only [Bool.or_eq_false_iff, decide_eq_false_iff_not] at h
    obtain ⟨⟨⟨h1, h2⟩, h3⟩, h4⟩ := h
    obtain ⟨i1, i2⟩ := longF_no h4
    refine ⟨fun y hy => ?_, fun hn => ?_⟩
    · rcases List.mem_cons.1 hy with rfl | hy
      · omega
      · exact i1 y hy
    · have := i2 (by omega)
      unfold sumLen
      omega
theorem badF_no : ∀ {l : List Ent} {p : Option Ent}, badF p l = false → ∀ x ∈ l, x.key.toList.isEmpty = false ∧ (x.gone = true → x.value.toList.isEmpty = true)
  | [], p, _, x, hx => by cases hx
  | y :: r, p, h, x, hx => by
    unfold badF at h
    simp only [Bool.or_eq_false_iff] at h
    obtain ⟨⟨⟨h1, h2⟩, h3⟩, h4⟩ := h
    rcases List.mem_cons.1 hx with rfl | hx
    · refine ⟨h1, fun hg => ?_⟩
      rw [hg] at h2
      simpa using h2
    · exact badF_no h4 x hx
theorem empty_size {t : ByteArray} (h : t.toList.isEmpty = true) : t.size = 0 := by
  rw [List.isEmpty_iff] at h
  have : t.data.toList = [] := by
    have e : t.toList = t.data.toList := ByteArray.toList_eq t
    rw [← e, h]
  have hl := congrArg List.length this
  simpa using hl
theorem right_zero {l : List Ent} (h : right l = 0) : l.length ≤ 4096 ∧ longF 0 l = false ∧ badF none l = false := by
  unfold right at h
  split at h
  · cases h
  · split at h
    · cases h
    · split at h
      · cases h
      · rename_i h1 h2 h3
        exact ⟨by omega, by simpa using h2, by simpa using h3⟩
theorem right_fit {l : List Ent} (h : right l = 0) : ∀ x ∈ l, Fit x := fun x hx => by
  obtain ⟨h1, h2, h3⟩ := right_zero h
  have a := (longF_no h2).1 x hx
  exact ⟨a.1, a.2, fun hg => empty_size ((badF_no h3 x hx).2 hg)⟩
theorem body_len : ∀ l : List Ent, (body l).length = 8 * l.length + sumLen l
  | [] => rfl
  | x :: r => by
    have : body (x :: r) = text x ++ body r := rfl
    have e : sumLen (x :: r) = x.key.size + x.value.size + sumLen r := rfl
    rw [this, List.length_append, text_len, body_len r, e]
    simp only [List.length_cons]
    omega
theorem body_bound {l : List Ent} (h : right l = 0) : (body l).length ≤ 557056 := by
  obtain ⟨h1, h2, h3⟩ := right_zero h
  have := (longF_no h2).2 (by omega)
  rw [body_len]
  omega
theorem pre_len (l : List Ent) : (pre l).length = 12 + (body l).length := by
  unfold pre
  simp only [List.length_append, le4_len]
  show 4 + 4 + 4 + _ = _
  omega
theorem bytes_len (l : List Ent) : (bytes l).length = 16 + (body l).length := by
  unfold bytes
  rw [List.length_append, pre_len, le4_len]
  omega
theorem bytes_drop (l : List Ent) : (bytes l).take 4 = mark ∧ (bytes l).drop 4 = Sm.le4 l.length ++ (Sm.le4 (body l).length ++ (body l ++ Sm.le4 (Sm.crc (pre l)))) ∧ (bytes l).drop 8 = Sm.le4 (body l).length ++ (body l ++ Sm.le4 (Sm.crc (pre l))) ∧ (bytes l).drop 12 = body l ++ Sm.le4 (Sm.crc (pre l)) := by
  have e : bytes l = mark ++ (Sm.le4 l.length ++ (Sm.le4 (body l).length ++ (body l ++ Sm.le4 (Sm.crc (pre l))))) := by
    unfold bytes
    conv => lhs; unfold pre
    simp only [List.append_assoc]
    rfl
  rw [e]
  exact ⟨rfl, rfl, rfl, rfl⟩
/-- What was built is opened. -/
theorem open_bytes {l : List Ent} (h : right l = 0) : openE (ba (bytes l)) = some l := by
  obtain ⟨d0, d4, d8, d12⟩ := bytes_drop l
  have hbb := body_bound h
  have hl := (right_zero h).1
  have hbl := body_len l
  have hv4 : Sm.val4 ((bytes l).drop 4) = l.length := by rw [d4]; exact Sm.val4_le4 (by omega) _
  have hv8 : Sm.val4 ((bytes l).drop 8) = (body l).length := by rw [d8]; exact Sm.val4_le4 (by omega) _
  have hsz : (ba (bytes l)).size = 16 + (body l).length := by rw [ba_size, bytes_len]
  unfold openE
  rw [ba_list, hsz, hv4, hv8, if_pos ⟨by omega, d0, by omega, Sm.sumOk_make _⟩]
  have hp := parseF_body (s := ba (bytes l)) (e := 16 + (body l).length - 4) (n := l.length) l (16 + (body l).length + 1) 12 0 (Sm.le4 (Sm.crc (pre l))) (by rw [ba_list]; exact d12) (right_fit h) (by omega) (by omega) (by omega)
  rw [hp]
  simp only
  rw [if_pos ⟨trivial, h⟩]
theorem val4_take {a b : List UInt8} (h : a.take 4 = b.take 4) : Sm.val4 a = Sm.val4 b := by
  have e : ∀ (l : List UInt8) i, i < 4 → l.getD i 0 = (l.take 4).getD i 0 := fun l i hi => by
    rw [List.getD_eq_getElem?_getD, List.getD_eq_getElem?_getD, List.getElem?_take, if_pos hi]
  unfold Sm.val4
  rw [e a 0 (by decide), e a 1 (by decide), e a 2 (by decide), e a 3 (by decide), e b 0 (by decide), e b 1 (by decide), e b 2 (by decide), e b 3 (by decide), h]
theorem open_size {s : ByteArray} {l : List Ent} (h : openE s = some l) : 12 ≤ s.size ∧ (s.size : Int) - 4 - 12 = Sm.val4 (s.data.toList.drop 8) ∧ Sm.sumOk s.data.toList = true ∧ right l = 0 ∧ l.length = Sm.val4 (s.data.toList.drop 4) := by
  unfold openE at h
  split at h
  · rename_i hc
    split at h
    · cases h
    · split at h
      · rename_i hr
        cases h
        exact ⟨hc.1, hc.2.2.1, hc.2.2.2, hr.2, hr.1⟩
      · cases h
  · cases h
/-- Two texts that begin alike, up to the length's end, and are both opened, are of one length. -/
theorem open_alike {s t : ByteArray} (h : s.data.toList.take 12 = t.data.toList.take 12) (hs : openE s ≠ none) (ht : openE t ≠ none) : s.size = t.size := by
  rcases e1 : openE s with _ | l
  · exact absurd e1 hs
  · rcases e2 : openE t with _ | m
    · exact absurd e2 ht
    · obtain ⟨_, a2, _⟩ := open_size e1
      obtain ⟨_, b2, _⟩ := open_size e2
      have e : ∀ l : List UInt8, (l.drop 8).take 4 = (l.take 12).drop 8 := fun l => by rw [List.drop_take]
      have := val4_take (a := s.data.toList.drop 8) (b := t.data.toList.drop 8) (by rw [e, e, h])
      omega
/-- A text that is opened, cut, is not opened; nor with more behind; nor with one byte changed. -/
theorem open_cut {s : ByteArray} (hs : openE s ≠ none) (k : Nat) (hk : k < s.size) : openE (ba (s.data.toList.take k)) = none := by
  rcases e1 : openE (ba (s.data.toList.take k)) with _ | l
  · rfl
  · exfalso
    have h12 := (open_size e1).1
    have hz : (ba (s.data.toList.take k)).size = k := by rw [ba_size, List.length_take, list_len]; omega
    have := open_alike (s := ba (s.data.toList.take k)) (t := s) (by rw [ba_list, List.take_take, Nat.min_eq_left (by omega)]) (by rw [e1]; simp) hs
    omega
theorem open_more {s t : ByteArray} (hs : openE s ≠ none) (ht : 0 < t.size) : openE (s ++ t) = none := by
  rcases e1 : openE (s ++ t) with _ | l
  · rfl
  · exfalso
    rcases e2 : openE s with _ | m
    · exact hs e2
    · have h12 := (open_size e2).1
      have := open_alike (s := s ++ t) (t := s) (by
        rw [show (s ++ t).data.toList = s.data.toList ++ t.data.toList from by simp, List.take_append_of_le_length (by rw [list_len]; exact h12)]) (by rw [e1]; simp) hs
      rw [ByteArray.size_append] at this
      omega
theorem open_spoilt {s : ByteArray} (hs : openE s ≠ none) (k : Nat) (hk : k < s.data.toList.length) (x : UInt8) (hx : x ≠ s.data.toList[k]) : openE (ba (s.data.toList.set k x)) = none := by
  rcases e1 : openE (ba (s.data.toList.set k x)) with _ | l
  · rfl
  · exfalso
    rcases e2 : openE s with _ | m
    · exact hs e2
    · have h1 := (open_size e1).2.2.1
      have h2 := (open_size e2).2.2.1
      rw [ba_list, Sm.sumOk_set h2 k hk x hx] at h1
      cases h1
end Tb
end Go.Proofs.Ytdjccepchleacaa
