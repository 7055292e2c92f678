/- IdlBlanks, plain: the text that tokens are put apart in. (Its first part is taken from XTokBackMath.) -/
import Derived.Test.YtoomlpalkinipaaDoorTokJoinMath
set_option linter.unusedVariables false
set_option linter.unusedSimpArgs false
namespace Go.Proofs.YtoomlpalkinipaaDoor
namespace Tk
theorem oneAt_at (d : Nat) (s : ByteArray) (k : Nat) : (oneAt d s k).1.at_ = k := by
  unfold oneAt
  dsimp only
  split
  · rfl
  · split
    · split
      · rfl
      · split <;> rfl
    · split
      · rfl
      · split <;> rfl
theorem ok_byte : ∀ x, x < 256 → (isLetter x || isDigit x || isSign x || decide (x = 45)) = true → isBlank x = false ∧ x ≠ 47 := by decide +kernel
theorem one_first {d : Nat} {s : ByteArray} {k : Nat} (he : (oneAt d s k).2 = 0) : (isLetter (byte s k) || isDigit (byte s k) || isSign (byte s k) || decide (byte s k = 45)) = true := by
  unfold oneAt at he
  dsimp only at he
  split at he
  · rename_i h; rw [h]; rfl
  · split at he
    · rename_i h; rw [h]; simp
    · split at he
      · rename_i h; rw [h]; simp
      · split at he
        · rename_i h; simp [h.1]
        · cases he
theorem gap_zero {d : Nat} {s : ByteArray} {k : Nat} (hk : k < s.size) (he : (oneAt d s k).2 = 0) : gapEnd false s k = k := by
  have h := one_first he
  rw [byte_eq hk] at h
  obtain ⟨h1, h2⟩ := ok_byte _ s[k].toNat_lt h
  exact gapEnd_stop hk h1 (fun e => h2 e.1)
theorem run_take (p : Nat → Bool) : ∀ l : List UInt8, run p (l.take (run p l)) = run p l
  | [] => rfl
  | c :: r => by
    have ih := run_take p r
    by_cases h : p c.toNat = true
    · have e : run p (c :: r) = 1 + run p r := by simp only [run, h, if_true]
      rw [e, Nat.add_comm, List.take_succ_cons]
      simp only [run, h, if_true, ih]
      omega
    · have e : run p (c :: r) = 0 := by simp only [run]; rw [if_neg h]
      rw [e]; rfl
theorem from_extract (s : ByteArray) (k e : Nat) : from_ (s.extract k e) 0 = (from_ s k).take (e - k) := by
  unfold from_
  rw [Lib.extract_data, List.drop_zero]
theorem from_succ_extract {s : ByteArray} {k e : Nat} (hk : k < s.size) (he : k < e) : from_ (s.extract k e) 1 = (from_ s (k + 1)).take (e - (k + 1)) := by
  have h := from_extract s k e
  have h1 : from_ (s.extract k e) 1 = (from_ (s.extract k e) 0).drop 1 := by unfold from_; rw [List.drop_drop]
  rw [h1, h, from_cons hk, show e - k = (e - (k + 1)) + 1 from by omega, List.take_succ_cons, List.drop_one, List.tail_cons]
theorem bytes_eq {a b : ByteArray} (h : a.data.toList = b.data.toList) : a = b := by
  have h3 : a.data = b.data := Array.toList_inj.1 h
  cases a; cases b
  simp only at h3
  rw [h3]
theorem extract_self (s : ByteArray) : s.extract 0 s.size = s := by
  apply bytes_eq
  rw [Lib.extract_data, List.drop_zero, Nat.sub_zero]
  exact List.take_of_length_le (by simp)
theorem own_run {p : Nat → Bool} {s : ByteArray} {k : Nat} (hk : k < s.size) : runEnd p (s.extract k (runEnd p s (k + 1))) 1 = runEnd p s (k + 1) - k := by
  have hg := runEnd_ge p s (k + 1)
  unfold runEnd at hg ⊢
  rw [from_succ_extract hk (by omega), show k + 1 + run p (from_ s (k + 1)) - (k + 1) = run p (from_ s (k + 1)) from by omega, run_take]
  omega
theorem own_byte {s : ByteArray} {k e : Nat} (hk : k < s.size) (he : k < e) : byte (s.extract k e) 0 = byte s k := by
  rw [byte_from, byte_from, from_extract, from_cons hk, show e - k = (e - (k + 1)) + 1 from by omega, List.take_succ_cons]
  rfl
theorem own_num {s : ByteArray} {k e : Nat} (he : e ≤ s.size) : num (s.extract k e) 0 (e - k) = num s k e := by
  rw [num_from, num_from, from_extract, Nat.sub_zero, List.take_take, Nat.min_self]
theorem one_ways {d : Nat} {s : ByteArray} {k : Nat} (h0 : (oneAt d s k).2 = 0) :
    (isLetter (byte s k) = true ∧ ¬ 32 < runEnd isInner s (k + 1) - k ∧ oneAt d s k = (⟨1, s.extract k (runEnd isInner s (k + 1)), 0, k⟩, 0)) ∨
    (isLetter (byte s k) = false ∧ isDigit (byte s k) = true ∧ ¬ 9 < runEnd isDigit s (k + 1) - k ∧ ¬ (byte s k = 48 ∧ 1 < runEnd isDigit s (k + 1) - k) ∧ oneAt d s k = (⟨2, s.extract k (runEnd isDigit s (k + 1)), num s k (runEnd isDigit s (k + 1)), k⟩, 0)) ∨
    (isLetter (byte s k) = false ∧ isDigit (byte s k) = false ∧ isSign (byte s k) = true ∧ oneAt d s k = (⟨3, s.extract k (k + 1), 0, k⟩, 0)) ∨
    (byte s k = 45 ∧ k + 1 < s.size ∧ byte s (k + 1) = 62 ∧ oneAt d s k = (⟨3, arrow, 0, k⟩, 0)) := by
  unfold oneAt at h0 ⊢
  dsimp only at h0 ⊢
  by_cases c1 : isLetter (byte s k) = true
  · rw [if_pos c1] at h0 ⊢
    simp only at h0
    split at h0
    · simp at h0
    · rename_i hh
      exact .inl ⟨c1, hh, by rw [if_neg hh]⟩
  · rw [if_neg c1] at h0 ⊢
    have c1' : isLetter (byte s k) = false := by simpa using c1
    by_cases c2 : isDigit (byte s k) = true
    · rw [if_pos c2] at h0 ⊢
      split at h0
      · simp at h0
      · rename_i c3
        split at h0
        · simp at h0
        · rename_i c4
          exact .inr (.inl ⟨c1', c2, c3, c4, by rw [if_neg c3, if_neg c4]⟩)
    · rw [if_neg c2] at h0 ⊢
      have c2' : isDigit (byte s k) = false := by simpa using c2
      by_cases c5 : isSign (byte s k) = true
      · rw [if_pos c5]
        exact .inr (.inr (.inl ⟨c1', c2', c5, rfl⟩))
      · rw [if_neg c5] at h0 ⊢
        by_cases c6 : byte s k = 45 ∧ k + 1 < s.size ∧ byte s (k + 1) = 62
        · rw [if_pos c6]
          exact .inr (.inr (.inr ⟨c6.1, c6.2.1, c6.2.2, rfl⟩))
        · rw [if_neg c6] at h0
          simp at h0
theorem one_arrow : oneAt 3 arrow 0 = (⟨3, arrow, 0, 0⟩, 0) := by
  have b0 : byte arrow 0 = 45 := by decide
  have b1 : byte arrow (0 + 1) = 62 := by decide
  unfold oneAt
  dsimp only
  rw [b0, b1, if_neg (by decide), if_neg (by decide), if_neg (by decide), if_pos ⟨rfl, by decide, rfl⟩]
theorem own_one {d : Nat} {s : ByteArray} {k : Nat} (hk : k < s.size) (h0 : (oneAt d s k).2 = 0) : oneAt 3 (oneAt d s k).1.text 0 = ({ (oneAt d s k).1 with at_ := 0 }, 0) := by
  have g1 := runEnd_ge isInner s (k + 1)
  have l1 := runEnd_le (p := isInner) (s := s) (k := k + 1) (by omega)
  have g2 := runEnd_ge isDigit s (k + 1)
  have l2 := runEnd_le (p := isDigit) (s := s) (k := k + 1) (by omega)
  have hex : ∀ e, e ≤ s.size → (s.extract k e).size = e - k := fun e he => by simp; omega
  have hes : ∀ e, e ≤ s.size → (s.extract k e).extract 0 (e - k) = s.extract k e := fun e he => by
    have := extract_self (s.extract k e); rwa [hex e he] at this
  rcases one_ways h0 with ⟨c1, c2, e⟩ | ⟨c1, c2, c3, c4, e⟩ | ⟨c1, c2, c3, e⟩ | ⟨c1, c2, c3, e⟩
  · rw [e]
    show oneAt 3 (s.extract k (runEnd isInner s (k + 1))) 0 = _
    unfold oneAt
    dsimp only
    rw [own_byte hk (by omega), if_pos c1, own_run hk, Nat.sub_zero, hes _ l1, if_neg c2]
  · rw [e]
    show oneAt 3 (s.extract k (runEnd isDigit s (k + 1))) 0 = _
    unfold oneAt
    dsimp only
    rw [own_byte hk (by omega), if_neg (by simp [c1]), if_pos c2, own_run hk, Nat.sub_zero, hes _ l2, own_num l2, if_neg c3, if_neg c4]
  · rw [e]
    show oneAt 3 (s.extract k (k + 1)) 0 = _
    have h1 := hes (k + 1) (by omega)
    rw [show k + 1 - k = 1 from by omega] at h1
    unfold oneAt
    dsimp only
    rw [own_byte hk (by omega), if_neg (by simp [c1]), if_neg (by simp [c2]), if_pos c3, Nat.zero_add, h1]
  · rw [e]
    exact one_arrow
theorem one_extract {d : Nat} {s : ByteArray} {k : Nat} (hk : k < s.size) (h0 : (oneAt d s k).2 = 0) : s.extract k (k + (oneAt d s k).1.text.size) = (oneAt d s k).1.text := by
  have g1 := runEnd_ge isInner s (k + 1)
  have l1 := runEnd_le (p := isInner) (s := s) (k := k + 1) (by omega)
  have g2 := runEnd_ge isDigit s (k + 1)
  have l2 := runEnd_le (p := isDigit) (s := s) (k := k + 1) (by omega)
  have hex : ∀ e, k ≤ e → e ≤ s.size → k + (s.extract k e).size = e := fun e _ he => by simp; omega
  rcases one_ways h0 with ⟨c1, c2, e⟩ | ⟨c1, c2, c3, c4, e⟩ | ⟨c1, c2, c3, e⟩ | ⟨b1, b2, b3, e⟩
  · rw [e]
    show s.extract k (k + (s.extract k (runEnd isInner s (k + 1))).size) = s.extract k (runEnd isInner s (k + 1))
    rw [hex _ (by omega) l1]
  · rw [e]
    show s.extract k (k + (s.extract k (runEnd isDigit s (k + 1))).size) = s.extract k (runEnd isDigit s (k + 1))
    rw [hex _ (by omega) l2]
  · rw [e]
    show s.extract k (k + (s.extract k (k + 1)).size) = s.extract k (k + 1)
    rw [hex _ (by omega) (by omega)]
  · rw [e]
    show s.extract k (k + arrow.size) = arrow
    have : arrow.size = 2 := rfl
    rw [this]
    rw [byte_eq hk] at b1
    rw [byte_eq b2] at b3
    have e1 : s[k] = 45 := by apply UInt8.toNat_inj.1; rw [b1]; rfl
    have e2 : s[k + 1] = 62 := by apply UInt8.toNat_inj.1; rw [b3]; rfl
    have hd : (s.extract k (k + 2)).data.toList = arrow.data.toList := by
      rw [Lib.extract_data, show k + 2 - k = 2 from by omega]
      have f1 : (s.data.toList.drop k) = s[k] :: s[k + 1] :: from_ s (k + 2) := by
        show from_ s k = _
        rw [from_cons hk, from_cons b2]
      rw [f1, e1, e2]
      rfl
    exact bytes_eq hd
def Apart (s : ByteArray) : Nat → List Tok → Prop
  | _, [] => True
  | e, t :: l => (e ≤ t.at_ ∧ 0 < t.text.size ∧ t.at_ + t.text.size ≤ s.size ∧ s.extract t.at_ (t.at_ + t.text.size) = t.text ∧ oneAt 3 t.text 0 = ({ t with at_ := 0 }, 0)) ∧ Apart s (t.at_ + t.text.size) l
theorem Apart.mono {s : ByteArray} {e e' : Nat} {l : List Tok} (h : Apart s e l) (he : e' ≤ e) : Apart s e' l := by
  cases l with
  | nil => trivial
  | cons t l => exact ⟨⟨Nat.le_trans he h.1.1, h.1.2⟩, h.2⟩
theorem scan_apart (d : Nat) (s : ByteArray) : ∀ (f k : Nat) (acc : List Tok), (scan d s f k acc).2.2 = 0 → ∃ rest, (scan d s f k acc).1 = acc ++ rest ∧ Apart s k rest
  | 0, k, acc, _ => ⟨[], by simp [scan], trivial⟩
  | f + 1, k, acc, h => by
    by_cases h1 : k < s.size
    · by_cases h2 : (oneAt d s k).2 = 0
      · rw [scan_ok h1 h2] at h ⊢
        obtain ⟨rest, e, ha⟩ := scan_apart d s f _ _ h
        refine ⟨(oneAt d s k).1 :: rest, by rw [e]; simp, ⟨?_, ?_⟩⟩
        · have hk := oneAt_ok h1 h2
          rw [oneAt_at]
          exact ⟨Nat.le_refl _, by omega, hk.2, one_extract h1 h2, own_one h1 h2⟩
        · rw [oneAt_at]
          exact ha.mono (gapEnd_ge _ _ _)
      · rw [scan_err h1 h2] at h
        exact absurd h h2
    · rw [scan_end h1]
      exact ⟨[], by simp, trivial⟩
theorem all_apart {s : ByteArray} (h : (all s).2.2 = 0) : Apart s 0 (all s).1 := by
  unfold all at h ⊢
  split at h
  · cases h
  · rename_i hn
    rw [if_neg hn]
    obtain ⟨rest, e, ha⟩ := scan_apart 3 s _ _ _ h
    rw [e, List.nil_append]
    exact ha.mono (Nat.zero_le _)
theorem Apart.drop {s : ByteArray} : ∀ {l : List Tok} {e k : Nat} (hk : k < l.length) (h : Apart s e (l.drop k)), (e ≤ l[k].at_ ∧ 0 < l[k].text.size ∧ l[k].at_ + l[k].text.size ≤ s.size ∧ s.extract l[k].at_ (l[k].at_ + l[k].text.size) = l[k].text ∧ oneAt 3 l[k].text 0 = ({ l[k] with at_ := 0 }, 0)) ∧ Apart s (l[k].at_ + l[k].text.size) (l.drop (k + 1)) := by
  intro l e k hk h
  rw [List.drop_eq_getElem_cons hk] at h
  exact h
def Owns (l : List Tok) : Prop := ∀ t ∈ l, 0 < t.text.size ∧ oneAt 3 t.text 0 = ({ t with at_ := 0 }, 0)
theorem Apart.owns {s : ByteArray} : ∀ {l : List Tok} {e : Nat}, Apart s e l → Owns l
  | [], _, _ => fun t ht => by simp at ht
  | t :: l, _, h => fun u hu => by
    rcases List.mem_cons.1 hu with rfl | hu
    · exact ⟨h.1.2.1, h.1.2.2.2.2⟩
    · exact h.2.owns u hu
theorem front_first {c : ByteArray} {k : Nat} {t : Tok} {r : List UInt8} (hf : from_ c k = t.text.data.toList ++ r) (hr : r = [] ∨ ∃ r', r = 10 :: r') (h0 : 0 < t.text.size) (ho : oneAt 3 t.text 0 = ({ t with at_ := 0 }, 0)) (hz : k ≤ c.size) :
    oneAt 3 c k = ({ t with at_ := k }, 0) := by
  obtain ⟨b, hb⟩ : ∃ b : ByteArray, b.data.toList = t.text.data.toList ++ r := ⟨⟨(t.text.data.toList ++ r).toArray⟩, by simp⟩
  have hcb : ∀ j, from_ c (k + j) = from_ b j := fun j => by
    unfold from_ at hf ⊢
    rw [hb, ← hf, List.drop_drop]
  have hsz : c.size = k + b.size := by
    have := congrArg List.length (hcb 0)
    rw [size_from, size_from] at this
    have h2 : b.size = b.data.toList.length := by simp
    omega
  have hs := shift_one hcb hsz 3 0
  rw [Nat.add_zero] at hs
  have hbt : oneAt 3 b 0 = oneAt 3 t.text 0 := by
    rcases hr with rfl | ⟨r', rfl⟩
    · rw [List.append_nil] at hb
      rw [bytes_eq hb]
    · exact front_one hb (by decide) (by decide) (by decide) 3 h0
  rw [hs, hbt, ho]
  rfl
theorem Apart.sum {s : ByteArray} : ∀ {l : List Tok} {e : Nat}, e ≤ s.size → Apart s e l → e + (l.map fun t => t.text.size).sum ≤ s.size ∧ e + l.length ≤ s.size
  | [], e, he, _ => by simp; omega
  | t :: l, e, he, h => by
    obtain ⟨⟨h1, h2, h3, _, _⟩, hr⟩ := h
    have ih := Apart.sum h3 hr
    rw [List.map_cons, List.sum_cons, List.length_cons]
    omega
/-- What stands between two tokens. -/
def sep : List UInt8 := [10, 47, 47, 32, 120, 32, 123, 32, 59, 10, 9]
def apartL : List Tok → List UInt8
  | [] => []
  | t :: l => t.text.data.toList ++ (sep ++ apartL l)
theorem apartL_snoc (l : List Tok) (t : Tok) : apartL (l ++ [t]) = apartL l ++ (t.text.data.toList ++ sep) := by
  induction l with
  | nil => simp [apartL]
  | cons u l ih => simp [apartL, ih]
theorem apartL_len : ∀ l : List Tok, (apartL l).length = (l.map fun t => t.text.size).sum + 11 * l.length
  | [] => rfl
  | t :: l => by
    have e : t.text.data.toList.length = t.text.size := by simp
    rw [apartL, List.length_append, List.length_append, apartL_len l, e, List.map_cons, List.sum_cons, List.length_cons]
    simp [sep]
    omega
def spaced : List Tok → Nat → List Tok
  | [], _ => []
  | t :: l, k => { t with at_ := k } :: spaced l (k + t.text.size + 11)
theorem gap_sep (r : List UInt8) : gap false (sep ++ r) = 11 + gap false r := by
  unfold sep
  simp [gap, isBlank]
  omega
theorem scan_spaced (c : ByteArray) : ∀ (l : List Tok) (f k : Nat) (acc : List Tok), Owns l → k ≤ c.size → from_ c k = apartL l → c.size < f + k →
    gapEnd false c k = k ∧ scan 3 c f k acc = (acc ++ spaced l k, 0, 0)
  | [], f, k, acc, _, hk, hf, hF => by
    have hz : ¬ k < c.size := by
      have := congrArg List.length hf
      rw [size_from] at this
      simp [apartL] at this
      omega
    exact ⟨gapEnd_end false (by omega), by rw [scan_end hz]; simp [spaced]⟩
  | t :: l, f, k, acc, ho, hk, hf, hF => by
    have ht := ho t (by simp)
    have hl : Owns l := fun u hu => ho u (by simp [hu])
    rw [apartL] at hf
    have hone := front_first (r := sep ++ apartL l) hf (.inr ⟨_, rfl⟩) ht.1 ht.2 hk
    have e0 : t.text.data.toList.length = t.text.size := by simp
    have hlen := congrArg List.length hf
    rw [size_from, List.length_append, List.length_append, e0] at hlen
    have hse : sep.length = 11 := rfl
    have hlt : k < c.size := by omega
    refine ⟨gap_zero hlt (by rw [hone]), ?_⟩
    obtain ⟨f, rfl⟩ : ∃ f', f = f' + 1 := ⟨f - 1, by omega⟩
    rw [scan_ok hlt (by rw [hone]), hone]
    simp only
    have hnext : from_ c (k + t.text.size) = sep ++ apartL l := by
      have e1 : from_ c (k + t.text.size) = (from_ c k).drop t.text.size := by unfold from_; rw [List.drop_drop]
      rw [e1, hf, ← e0, List.drop_append_length]
    have hnext2 : from_ c (k + t.text.size + 11) = apartL l := by
      have e1 : from_ c (k + t.text.size + 11) = (from_ c (k + t.text.size)).drop 11 := by unfold from_; rw [List.drop_drop]
      rw [e1, hnext]
      exact List.drop_left' rfl
    have ih := scan_spaced c l f (k + t.text.size + 11) (acc ++ [{ t with at_ := k }]) hl (by omega) hnext2 (by omega)
    have hg : gapEnd false c (k + t.text.size) = k + t.text.size + 11 := by
      have h1 := ih.1
      unfold gapEnd at h1 ⊢
      rw [hnext2] at h1
      rw [hnext, gap_sep]
      omega
    rw [hg, ih.2]
    simp [spaced]
theorem all_spaced {l : List Tok} {c : ByteArray} (ho : Owns l) (hc : c.data.toList = apartL l) (hs : c.size ≤ 65536) : all c = (spaced l 0, 0, 0) := by
  have hf : from_ c 0 = apartL l := by unfold from_; rw [hc, List.drop_zero]
  have h := scan_spaced c l (c.size + 1) 0 [] ho (Nat.zero_le _) hf (by omega)
  unfold all
  rw [if_neg (by omega), h.1, h.2, List.nil_append]
/-- Which token stands at a place: how many there are, if none does. -/
def number : List Tok → Nat → Nat
  | [], _ => 0
  | t :: l, a => if t.at_ = a then 0 else number l a + 1
theorem number_apart {s : ByteArray} : ∀ {l : List Tok} {e : Nat} (i : Nat) (h : i < l.length), Apart s e l → number l l[i].at_ = i
  | [], _, i, h, _ => by simp at h
  | t :: l, e, 0, _, _ => by simp [number]
  | t :: l, e, i + 1, h, ha => by
    have hi : i < l.length := by simpa using h
    have hlo : ∀ {m : List Tok} {e : Nat} (j : Nat) (hj : j < m.length), Apart s e m → e ≤ m[j].at_ := by
      intro m
      induction m with
      | nil => intro e j hj; simp at hj
      | cons u m ih =>
        intro e j hj ha
        cases j with
        | zero => exact ha.1.1
        | succ j =>
          have := ih (e := u.at_ + u.text.size) j (by simpa using hj) ha.2
          have h1 := ha.1.1
          have h2 := ha.1.2.1
          simp only [List.getElem_cons_succ]
          omega
    have h1 := hlo i hi ha.2
    have h2 := ha.1.2.1
    rw [List.getElem_cons_succ, number, if_neg (by omega), number_apart i hi ha.2]
theorem number_none : ∀ {l : List Tok} {a : Nat}, (∀ t ∈ l, t.at_ ≠ a) → number l a = l.length
  | [], _, _ => rfl
  | t :: l, a, h => by rw [number, if_neg (h t (by simp)), number_none (fun u hu => h u (by simp [hu])), List.length_cons]
theorem spaced_len : ∀ (l : List Tok) (k : Nat), (spaced l k).length = l.length
  | [], _ => rfl
  | t :: l, k => by simp [spaced, spaced_len l]
theorem spaced_ge : ∀ (l : List Tok) (k i : Nat) (h : i < (spaced l k).length), k ≤ (spaced l k)[i].at_
  | [], _, i, h => by simp [spaced] at h
  | t :: l, k, 0, _ => Nat.le_refl _
  | t :: l, k, i + 1, h => by
    have := spaced_ge l (k + t.text.size + 11) i (by simpa [spaced] using h)
    simp only [spaced, List.getElem_cons_succ]
    omega
theorem number_spaced : ∀ (l : List Tok) (k i : Nat) (h : i < (spaced l k).length), number (spaced l k) (spaced l k)[i].at_ = i
  | [], _, i, h => by simp [spaced] at h
  | t :: l, k, 0, _ => by simp [spaced, number]
  | t :: l, k, i + 1, h => by
    have h1 := spaced_ge l (k + t.text.size + 11) i (by simpa [spaced] using h)
    have ih := number_spaced l (k + t.text.size + 11) i (by simpa [spaced] using h)
    simp only [spaced, List.getElem_cons_succ, number]
    rw [if_neg (by omega), ih]
theorem spaced_lt : ∀ (l : List Tok) (k i : Nat) (h : i < (spaced l k).length), (spaced l k)[i].at_ < k + (apartL l).length
  | [], _, i, h => by simp [spaced] at h
  | t :: l, k, 0, _ => by simp only [spaced, List.getElem_cons_zero, apartL_len, List.length_cons]; omega
  | t :: l, k, i + 1, h => by
    have := spaced_lt l (k + t.text.size + 11) i (by simpa [spaced] using h)
    rw [apartL_len] at this
    simp only [spaced, List.getElem_cons_succ, apartL_len, List.map_cons, List.sum_cons, List.length_cons]
    omega
end Tk
end Go.Proofs.YtoomlpalkinipaaDoor
