/- prints, plain: the tokens of a text that is joined by single blanks. (Its first part is taken from XTokBackMath.) No condition. -/
import Derived.Test.YtmncppnpppdfkaaDoorTokJoinMath
set_option linter.unusedVariables false
set_option linter.unusedSimpArgs false
namespace Go.Proofs.YtmncppnpppdfkaaDoor
namespace Tk
theorem oneAt_at (d : Nat) (s : ByteArray) (k : Nat) : (oneAt d s k).1.at_ = k := by
  unfold oneAt
  dsimp only
  split
  · rfl
  · split
    · split
      · rfl
      · split <;> rfl
    · split
      · rfl
      · split <;> rfl
theorem ok_byte : ∀ x, x < 256 → (isLetter x || isDigit x || isSign x || decide (x = 45)) = true → isBlank x = false ∧ x ≠ 47 := by decide +kernel
theorem one_first {d : Nat} {s : ByteArray} {k : Nat} (he : (oneAt d s k).2 = 0) : (isLetter (byte s k) || isDigit (byte s k) || isSign (byte s k) || decide (byte s k = 45)) = true := by
  unfold oneAt at he
  dsimp only at he
  split at he
  · rename_i h; rw [h]; rfl
  · split at he
    · rename_i h; rw [h]; simp
    · split at he
      · rename_i h; rw [h]; simp
      · split at he
        · rename_i h; simp [h.1]
        · cases he
theorem gap_zero {d : Nat} {s : ByteArray} {k : Nat} (hk : k < s.size) (he : (oneAt d s k).2 = 0) : gapEnd false s k = k := by
  have h := one_first he
  rw [byte_eq hk] at h
  obtain ⟨h1, h2⟩ := ok_byte _ s[k].toNat_lt h
  exact gapEnd_stop hk h1 (fun e => h2 e.1)
theorem bytes_eq {a b : ByteArray} (h : a.data.toList = b.data.toList) : a = b := by
  have h3 : a.data = b.data := Array.toList_inj.1 h
  cases a; cases b
  simp only at h3
  rw [h3]
theorem extract_self (s : ByteArray) : s.extract 0 s.size = s := by
  apply bytes_eq
  rw [Lib.extract_data, List.drop_zero, Nat.sub_zero]
  exact List.take_of_length_le (by simp)
theorem one_arrow : oneAt 3 arrow 0 = (⟨3, arrow, 0, 0⟩, 0) := by
  have b0 : byte arrow 0 = 45 := by decide
  have b1 : byte arrow (0 + 1) = 62 := by decide
  unfold oneAt
  dsimp only
  rw [b0, b1, if_neg (by decide), if_neg (by decide), if_neg (by decide), if_pos ⟨rfl, by decide, rfl⟩]
def placed : List Tok → Nat → List Tok
  | [], _ => []
  | t :: l, k => { t with at_ := k } :: placed l (k + t.text.size + 1)
theorem placed_len : ∀ (l : List Tok) (k : Nat), (placed l k).length = l.length
  | [], _ => rfl
  | t :: l, k => by simp [placed, placed_len l]
def Owns (l : List Tok) : Prop := ∀ t ∈ l, 0 < t.text.size ∧ oneAt 3 t.text 0 = ({ t with at_ := 0 }, 0)
theorem front_first {c : ByteArray} {k : Nat} {t : Tok} {r : List UInt8} (hf : from_ c k = t.text.data.toList ++ r) (hr : r = [] ∨ ∃ r', r = 32 :: r') (h0 : 0 < t.text.size) (ho : oneAt 3 t.text 0 = ({ t with at_ := 0 }, 0)) (hz : k ≤ c.size) :
    oneAt 3 c k = ({ t with at_ := k }, 0) := by
  obtain ⟨b, hb⟩ : ∃ b : ByteArray, b.data.toList = t.text.data.toList ++ r := ⟨⟨(t.text.data.toList ++ r).toArray⟩, by simp⟩
  have hcb : ∀ j, from_ c (k + j) = from_ b j := fun j => by
    unfold from_ at hf ⊢
    rw [hb, ← hf, List.drop_drop]
  have hsz : c.size = k + b.size := by
    have := congrArg List.length (hcb 0)
    rw [size_from, size_from] at this
    have h2 : b.size = b.data.toList.length := by simp
    omega
  have hs := shift_one hcb hsz 3 0
  rw [Nat.add_zero] at hs
  have hbt : oneAt 3 b 0 = oneAt 3 t.text 0 := by
    rcases hr with rfl | ⟨r', rfl⟩
    · rw [List.append_nil] at hb
      rw [bytes_eq hb]
    · exact front_one hb (by decide) (by decide) (by decide) 3 h0
  rw [hs, hbt, ho]
  rfl
def joinT : List Tok → List UInt8
  | [] => []
  | t :: l => t.text.data.toList ++ l.flatMap fun u => 32 :: u.text.data.toList
def jtail : List Tok → List UInt8
  | [] => []
  | u :: r => 32 :: joinT (u :: r)
theorem joinT_cons (t : Tok) (l : List Tok) : joinT (t :: l) = t.text.data.toList ++ jtail l := by
  cases l with
  | nil => simp [joinT, jtail]
  | cons u r => simp [joinT, jtail]
theorem scan_joinT (c : ByteArray) : ∀ (l : List Tok) (f k : Nat) (acc : List Tok), Owns l → k ≤ c.size → from_ c k = joinT l → c.size < f + k →
    (l ≠ [] → gapEnd false c k = k) ∧ scan 3 c f k acc = (acc ++ placed l k, 0, 0)
  | [], f, k, acc, _, hk, hf, hF => by
    have hz : ¬ k < c.size := by
      have := congrArg List.length hf
      rw [size_from] at this
      simp [joinT] at this
      omega
    exact ⟨fun h => absurd rfl h, by rw [scan_end hz]; simp [placed]⟩
  | t :: l, f, k, acc, ho, hk, hf, hF => by
    have ht := ho t (by simp)
    have hl : Owns l := fun u hu => ho u (by simp [hu])
    rw [joinT_cons] at hf
    have hone := front_first (r := jtail l) hf (by cases l with | nil => exact .inl rfl | cons u r => exact .inr ⟨_, rfl⟩) ht.1 ht.2 hk
    have hlt : k < c.size := by
      have := congrArg List.length hf
      rw [size_from, List.length_append] at this
      have e : t.text.data.toList.length = t.text.size := by simp
      omega
    refine ⟨fun _ => gap_zero hlt (by rw [hone]), ?_⟩
    obtain ⟨f, rfl⟩ : ∃ f', f = f' + 1 := ⟨f - 1, by omega⟩
    rw [scan_ok hlt (by rw [hone]), hone]
    simp only
    have hok := oneAt_ok hlt (d := 3) (by rw [hone])
    rw [hone] at hok
    simp only at hok
    have hnext : from_ c (k + t.text.size) = jtail l := by
      have e1 : from_ c (k + t.text.size) = (from_ c k).drop t.text.size := by unfold from_; rw [List.drop_drop]
      have e2 : t.text.size = t.text.data.toList.length := by simp
      rw [e1, hf, e2, List.drop_append_length]
    cases l with
    | nil =>
      have hnext : from_ c (k + t.text.size) = [] := hnext
      have hend : ¬ k + t.text.size < c.size := by
        have := congrArg List.length hnext
        rw [size_from] at this
        simp at this
        omega
      rw [gapEnd_end false (by omega), scan_end hend]
      simp [placed]
    | cons u r =>
      have hnext : from_ c (k + t.text.size) = 32 :: joinT (u :: r) := hnext
      have hlt2 : k + t.text.size < c.size := by
        have := congrArg List.length hnext
        rw [size_from] at this
        simp at this
        omega
      have hb : c[k + t.text.size] = 32 ∧ from_ c (k + t.text.size + 1) = joinT (u :: r) := by
        rw [from_cons hlt2] at hnext
        injection hnext with n1 n2
        exact ⟨n1, n2⟩
      have ih := scan_joinT c (u :: r) f (k + t.text.size + 1) (acc ++ [{ t with at_ := k }]) hl (by omega) hb.2 (by omega)
      rw [gapEnd_blank hlt2 (by rw [hb.1]; decide), ih.1 (by simp), ih.2]
      simp [placed]
theorem all_joinT {l : List Tok} {c : ByteArray} (ho : Owns l) (hc : c.data.toList = joinT l) (hs : c.size ≤ 65536) : all c = (placed l 0, 0, 0) := by
  have hf : from_ c 0 = joinT l := by unfold from_; rw [hc, List.drop_zero]
  have h := scan_joinT c l (c.size + 1) 0 [] ho (Nat.zero_le _) hf (by omega)
  unfold all
  rw [if_neg (by omega)]
  cases l with
  | nil =>
    have hz : c.size = 0 := by
      have := congrArg List.length hf
      rw [size_from] at this
      simpa [joinT] using this
    rw [gapEnd_end false (by omega), h.2, List.nil_append]
  | cons t r => rw [h.1 (by simp), h.2, List.nil_append]
end Tk
end Go.Proofs.YtmncppnpppdfkaaDoor
