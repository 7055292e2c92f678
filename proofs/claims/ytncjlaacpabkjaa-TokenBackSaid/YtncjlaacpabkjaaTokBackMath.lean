/- Chapter 11, plain: a text's tokens stand in order; a token's own text; the text that tokens are spelled to. -/
import Derived.Test.YtncjlaacpabkjaaTokScanMath
import Derived.Test.YtncjlaacpabkjaaTokSpellP
set_option linter.unusedVariables false
namespace Go.Proofs.Ytncjlaacpabkjaa
namespace Tk
theorem run_take (p : Nat → Bool) : ∀ l : List UInt8, run p (l.take (run p l)) = run p l
  | [] => rfl
  | c :: r => by
    have ih := run_take p r
    by_cases h : p c.toNat = true
    · have e : run p (c :: r) = 1 + run p r := by simp only [run, h, if_true]
      rw [e, Nat.add_comm, List.take_succ_cons]
      simp only [run, h, if_true, ih]
      omega
    · have e : run p (c :: r) = 0 := by simp only [run]; rw [if_neg h]
      rw [e]; rfl
theorem from_extract (s : ByteArray) (k e : Nat) : from_ (s.extract k e) 0 = (from_ s k).take (e - k) := by
  unfold from_
  rw [Lib.extract_data, List.drop_zero]
theorem from_succ_extract {s : ByteArray} {k e : Nat} (hk : k < s.size) (he : k < e) : from_ (s.extract k e) 1 = (from_ s (k + 1)).take (e - (k + 1)) := by
  have h := from_extract s k e
  have h1 : from_ (s.extract k e) 1 = (from_ (s.extract k e) 0).drop 1 := by unfold from_; rw [List.drop_drop]
  rw [h1, h, from_cons hk, show e - k = (e - (k + 1)) + 1 from by omega, List.take_succ_cons, List.drop_one, List.tail_cons]
theorem bytes_eq {a b : ByteArray} (h : a.data.toList = b.data.toList) : a = b := by
  have h3 : a.data = b.data := Array.toList_inj.1 h
  cases a; cases b
  simp only at h3
  rw [h3]
theorem extract_self (s : ByteArray) : s.extract 0 s.size = s := by
  apply bytes_eq
  rw [Lib.extract_data, List.drop_zero, Nat.sub_zero]
  exact List.take_of_length_le (by simp)
theorem own_run {p : Nat → Bool} {s : ByteArray} {k : Nat} (hk : k < s.size) : runEnd p (s.extract k (runEnd p s (k + 1))) 1 = runEnd p s (k + 1) - k := by
  have hg := runEnd_ge p s (k + 1)
  unfold runEnd at hg ⊢
  rw [from_succ_extract hk (by omega), show k + 1 + run p (from_ s (k + 1)) - (k + 1) = run p (from_ s (k + 1)) from by omega, run_take]
  omega
theorem own_byte {s : ByteArray} {k e : Nat} (hk : k < s.size) (he : k < e) : byte (s.extract k e) 0 = byte s k := by
  rw [byte_from, byte_from, from_extract, from_cons hk, show e - k = (e - (k + 1)) + 1 from by omega, List.take_succ_cons]
  rfl
theorem own_num {s : ByteArray} {k e : Nat} (he : e ≤ s.size) : num (s.extract k e) 0 (e - k) = num s k e := by
  rw [num_from, num_from, from_extract, Nat.sub_zero, List.take_take, Nat.min_self]
/-- The ways of a right token. -/
theorem one_ways {d : Nat} {s : ByteArray} {k : Nat} (h0 : (oneAt d s k).2 = 0) :
    (isLetter (byte s k) = true ∧ ¬ 32 < runEnd isInner s (k + 1) - k ∧ oneAt d s k = (⟨1, s.extract k (runEnd isInner s (k + 1)), 0, k⟩, 0)) ∨
    (isLetter (byte s k) = false ∧ isDigit (byte s k) = true ∧ ¬ 9 < runEnd isDigit s (k + 1) - k ∧ ¬ (byte s k = 48 ∧ 1 < runEnd isDigit s (k + 1) - k) ∧ oneAt d s k = (⟨2, s.extract k (runEnd isDigit s (k + 1)), num s k (runEnd isDigit s (k + 1)), k⟩, 0)) ∨
    (isLetter (byte s k) = false ∧ isDigit (byte s k) = false ∧ isSign (byte s k) = true ∧ oneAt d s k = (⟨3, s.extract k (k + 1), 0, k⟩, 0)) ∨
    (byte s k = 45 ∧ k + 1 < s.size ∧ byte s (k + 1) = 62 ∧ oneAt d s k = (⟨3, arrow, 0, k⟩, 0)) := by
  unfold oneAt at h0 ⊢
  dsimp only at h0 ⊢
  by_cases c1 : isLetter (byte s k) = true
  · rw [if_pos c1] at h0 ⊢
    simp only at h0
    split at h0
    · simp at h0
    · rename_i hh
      exact .inl ⟨c1, hh, by rw [if_neg hh]⟩
  · rw [if_neg c1] at h0 ⊢
    have c1' : isLetter (byte s k) = false := by simpa using c1
    by_cases c2 : isDigit (byte s k) = true
    · rw [if_pos c2] at h0 ⊢
      split at h0
      · simp at h0
      · rename_i c3
        split at h0
        · simp at h0
        · rename_i c4
          exact .inr (.inl ⟨c1', c2, c3, c4, by rw [if_neg c3, if_neg c4]⟩)
    · rw [if_neg c2] at h0 ⊢
      have c2' : isDigit (byte s k) = false := by simpa using c2
      by_cases c5 : isSign (byte s k) = true
      · rw [if_pos c5]
        exact .inr (.inr (.inl ⟨c1', c2', c5, rfl⟩))
      · rw [if_neg c5] at h0 ⊢
        by_cases c6 : byte s k = 45 ∧ k + 1 < s.size ∧ byte s (k + 1) = 62
        · rw [if_pos c6]
          exact .inr (.inr (.inr ⟨c6.1, c6.2.1, c6.2.2, rfl⟩))
        · rw [if_neg c6] at h0
          simp at h0
theorem one_arrow : oneAt 3 arrow 0 = (⟨3, arrow, 0, 0⟩, 0) := by
  have b0 : byte arrow 0 = 45 := by decide
  have b1 : byte arrow (0 + 1) = 62 := by decide
  unfold oneAt
  dsimp only
  rw [b0, b1, if_neg (by decide), if_neg (by decide), if_neg (by decide), if_pos ⟨rfl, by decide, rfl⟩]
/-- A token's own text says the token. -/
theorem own_one {d : Nat} {s : ByteArray} {k : Nat} (hk : k < s.size) (h0 : (oneAt d s k).2 = 0) : oneAt 3 (oneAt d s k).1.text 0 = ({ (oneAt d s k).1 with at_ := 0 }, 0) := by
  have g1 := runEnd_ge isInner s (k + 1)
  have l1 := runEnd_le (p := isInner) (s := s) (k := k + 1) (by omega)
  have g2 := runEnd_ge isDigit s (k + 1)
  have l2 := runEnd_le (p := isDigit) (s := s) (k := k + 1) (by omega)
  have hex : ∀ e, e ≤ s.size → (s.extract k e).size = e - k := fun e he => by simp; omega
  have hes : ∀ e, e ≤ s.size → (s.extract k e).extract 0 (e - k) = s.extract k e := fun e he => by
    have := extract_self (s.extract k e); rwa [hex e he] at this
  rcases one_ways h0 with ⟨c1, c2, e⟩ | ⟨c1, c2, c3, c4, e⟩ | ⟨c1, c2, c3, e⟩ | ⟨c1, c2, c3, e⟩
  · rw [e]
    show oneAt 3 (s.extract k (runEnd isInner s (k + 1))) 0 = _
    unfold oneAt
    dsimp only
    rw [own_byte hk (by omega), if_pos c1, own_run hk, Nat.sub_zero, hes _ l1, if_neg c2]
  · rw [e]
    show oneAt 3 (s.extract k (runEnd isDigit s (k + 1))) 0 = _
    unfold oneAt
    dsimp only
    rw [own_byte hk (by omega), if_neg (by simp [c1]), if_pos c2, own_run hk, Nat.sub_zero, hes _ l2, own_num l2, if_neg c3, if_neg c4]
  · rw [e]
    show oneAt 3 (s.extract k (k + 1)) 0 = _
    have h1 := hes (k + 1) (by omega)
    rw [show k + 1 - k = 1 from by omega] at h1
    unfold oneAt
    dsimp only
    rw [own_byte hk (by omega), if_neg (by simp [c1]), if_neg (by simp [c2]), if_pos c3, Nat.zero_add, h1]
  · rw [e]
    exact one_arrow
theorem one_extract {d : Nat} {s : ByteArray} {k : Nat} (hk : k < s.size) (h0 : (oneAt d s k).2 = 0) : s.extract k (k + (oneAt d s k).1.text.size) = (oneAt d s k).1.text := by
  have g1 := runEnd_ge isInner s (k + 1)
  have l1 := runEnd_le (p := isInner) (s := s) (k := k + 1) (by omega)
  have g2 := runEnd_ge isDigit s (k + 1)
  have l2 := runEnd_le (p := isDigit) (s := s) (k := k + 1) (by omega)
  have hex : ∀ e, k ≤ e → e ≤ s.size → k + (s.extract k e).size = e := fun e _ he => by simp; omega
  rcases one_ways h0 with ⟨c1, c2, e⟩ | ⟨c1, c2, c3, c4, e⟩ | ⟨c1, c2, c3, e⟩ | ⟨b1, b2, b3, e⟩
  · rw [e]
    show s.extract k (k + (s.extract k (runEnd isInner s (k + 1))).size) = s.extract k (runEnd isInner s (k + 1))
    rw [hex _ (by omega) l1]
  · rw [e]
    show s.extract k (k + (s.extract k (runEnd isDigit s (k + 1))).size) = s.extract k (runEnd isDigit s (k + 1))
    rw [hex _ (by omega) l2]
  · rw [e]
    show s.extract k (k + (s.extract k (k + 1)).size) = s.extract k (k + 1)
    rw [hex _ (by omega) (by omega)]
  · rw [e]
    show s.extract k (k + arrow.size) = arrow
    have : arrow.size = 2 := rfl
    rw [this]
    rw [byte_eq hk] at b1
    rw [byte_eq b2] at b3
    have e1 : s[k] = 45 := by apply UInt8.toNat_inj.1; rw [b1]; rfl
    have e2 : s[k + 1] = 62 := by apply UInt8.toNat_inj.1; rw [b3]; rfl
    have hd : (s.extract k (k + 2)).data.toList = arrow.data.toList := by
      rw [Lib.extract_data, show k + 2 - k = 2 from by omega]
      have f1 : (s.data.toList.drop k) = s[k] :: s[k + 1] :: from_ s (k + 2) := by
        show from_ s k = _
        rw [from_cons hk, from_cons b2]
      rw [f1, e1, e2]
      rfl
    exact bytes_eq hd
/-- The tokens stand in order, from a place on, and say what stands there. -/
def Apart (s : ByteArray) : Nat → List Tok → Prop
  | _, [] => True
  | e, t :: l => (e ≤ t.at_ ∧ 0 < t.text.size ∧ t.at_ + t.text.size ≤ s.size ∧ s.extract t.at_ (t.at_ + t.text.size) = t.text ∧ oneAt 3 t.text 0 = ({ t with at_ := 0 }, 0)) ∧ Apart s (t.at_ + t.text.size) l
theorem Apart.mono {s : ByteArray} {e e' : Nat} {l : List Tok} (h : Apart s e l) (he : e' ≤ e) : Apart s e' l := by
  cases l with
  | nil => trivial
  | cons t l => exact ⟨⟨Nat.le_trans he h.1.1, h.1.2⟩, h.2⟩
theorem scan_apart (d : Nat) (s : ByteArray) : ∀ (f k : Nat) (acc : List Tok), (scan d s f k acc).2.2 = 0 → ∃ rest, (scan d s f k acc).1 = acc ++ rest ∧ Apart s k rest
  | 0, k, acc, _ => ⟨[], by simp [scan], trivial⟩
  | f + 1, k, acc, h => by
    by_cases h1 : k < s.size
    · by_cases h2 : (oneAt d s k).2 = 0
      · rw [scan_ok h1 h2] at h ⊢
        obtain ⟨rest, e, ha⟩ := scan_apart d s f _ _ h
        refine ⟨(oneAt d s k).1 :: rest, by rw [e]; simp, ⟨?_, ?_⟩⟩
        · have hk := oneAt_ok h1 h2
          rw [oneAt_at]
          exact ⟨Nat.le_refl _, by omega, hk.2, one_extract h1 h2, own_one h1 h2⟩
        · rw [oneAt_at]
          exact ha.mono (gapEnd_ge _ _ _)
      · rw [scan_err h1 h2] at h
        exact absurd h h2
    · rw [scan_end h1]
      exact ⟨[], by simp, trivial⟩
theorem all_apart {s : ByteArray} (h : (all s).2.2 = 0) : Apart s 0 (all s).1 := by
  unfold all at h ⊢
  split at h
  · cases h
  · rename_i hn
    rw [if_neg hn]
    obtain ⟨rest, e, ha⟩ := scan_apart 3 s _ _ _ h
    rw [e, List.nil_append]
    exact ha.mono (Nat.zero_le _)
theorem Apart.drop {s : ByteArray} : ∀ {l : List Tok} {e k : Nat} (hk : k < l.length) (h : Apart s e (l.drop k)), (e ≤ l[k].at_ ∧ 0 < l[k].text.size ∧ l[k].at_ + l[k].text.size ≤ s.size ∧ s.extract l[k].at_ (l[k].at_ + l[k].text.size) = l[k].text ∧ oneAt 3 l[k].text 0 = ({ l[k] with at_ := 0 }, 0)) ∧ Apart s (l[k].at_ + l[k].text.size) (l.drop (k + 1)) := by
  intro l e k hk h
  rw [List.drop_eq_getElem_cons hk] at h
  exact h
theorem Apart.total {s : ByteArray} : ∀ {l : List Tok} {e : Nat}, e ≤ s.size → Apart s e l → e + total (l.map Tok.int) ≤ s.size + l.length ∧ e + l.length ≤ s.size
  | [], e, he, _ => by simp [Tk.total]; omega
  | t :: l, e, he, h => by
    obtain ⟨⟨h1, h2, h3, _, _⟩, hr⟩ := h
    have ih := Apart.total h3 hr
    have e1 : Tk.total ((t :: l).map Tok.int) = (t.text.size + 1) + Tk.total (l.map Tok.int) := by simp [Tk.total, Tok.int]
    rw [e1, List.length_cons]
    omega
theorem own_chk {t : Tok} (h : oneAt 3 t.text 0 = ({ t with at_ := 0 }, 0)) (h0 : 0 < t.text.size) : chk t.int = true := by
  have e : ∀ u : ITok, u = t.int → u.text = t.text ∧ u.kind = t.kind ∧ u.num = (t.num : Int) := fun u hu => by subst hu; exact ⟨rfl, rfl, rfl⟩
  obtain ⟨e1, e2, e3⟩ := e _ rfl
  unfold chk
  rw [e1, h]
  have h1 : t.text.size ≠ 0 := by omega
  simp [e2, e3]
  exact fun e => by rw [e] at h1; exact h1 rfl
theorem Apart.chk {s : ByteArray} : ∀ {l : List Tok} {e : Nat}, Apart s e l → (l.map Tok.int).all Tk.chk = true
  | [], _, _ => rfl
  | t :: l, _, h => by
    rw [List.map_cons, List.all_cons, own_chk h.1.2.2.2.2 h.1.2.1, Apart.chk h.2]
    rfl
theorem mem_total {u : Tok} {l : List Tok} (h : u ∈ l) : u.text.size ≤ total (l.map Tok.int) := by
  induction l with
  | nil => simp at h
  | cons t l ih =>
    have e1 : Tk.total ((t :: l).map Tok.int) = (t.text.size + 1) + Tk.total (l.map Tok.int) := by simp [Tk.total, Tok.int]
    rcases List.mem_cons.1 h with rfl | h
    · omega
    · have := ih h; omega
/-- The tokens, one blank apart. -/
def placed : List Tok → Nat → List Tok
  | [], _ => []
  | t :: l, k => { t with at_ := k } :: placed l (k + t.text.size + 1)
theorem placed_len : ∀ (l : List Tok) (k : Nat), (placed l k).length = l.length
  | [], _ => rfl
  | t :: l, k => by simp [placed, placed_len l]
theorem placed_get : ∀ (l : List Tok) (k i : Nat) (h : i < l.length) (h' : i < (placed l k).length), ∃ a, (placed l k)[i] = { l[i] with at_ := a }
  | [], _, i, h, _ => by simp at h
  | t :: l, k, 0, _, _ => ⟨k, rfl⟩
  | t :: l, k, i + 1, h, h' => placed_get l _ i (by simpa using h) _
/-- Right tokens: each says its text. -/
def Owns (l : List Tok) : Prop := ∀ t ∈ l, 0 < t.text.size ∧ oneAt 3 t.text 0 = ({ t with at_ := 0 }, 0)
theorem Apart.owns {s : ByteArray} : ∀ {l : List Tok} {e : Nat}, Apart s e l → Owns l
  | [], _, _ => fun t ht => by simp at ht
  | t :: l, _, h => fun u hu => by
    rcases List.mem_cons.1 hu with rfl | hu
    · exact ⟨h.1.2.1, h.1.2.2.2.2⟩
    · exact h.2.owns u hu
theorem front_first {c : ByteArray} {k : Nat} {t : Tok} {r : List UInt8} (hf : from_ c k = t.text.data.toList ++ r) (hr : r = [] ∨ ∃ r', r = 32 :: r') (h0 : 0 < t.text.size) (ho : oneAt 3 t.text 0 = ({ t with at_ := 0 }, 0)) (hz : k ≤ c.size) :
    oneAt 3 c k = ({ t with at_ := k }, 0) := by
  obtain ⟨b, hb⟩ : ∃ b : ByteArray, b.data.toList = t.text.data.toList ++ r := ⟨⟨(t.text.data.toList ++ r).toArray⟩, by simp⟩
  have hcb : ∀ j, from_ c (k + j) = from_ b j := fun j => by
    unfold from_ at hf ⊢
    rw [hb, ← hf, List.drop_drop]
  have hsz : c.size = k + b.size := by
    have := congrArg List.length (hcb 0)
    rw [size_from, size_from] at this
    have h2 : b.size = b.data.toList.length := by simp
    omega
  have hs := shift_one hcb hsz 3 0
  rw [Nat.add_zero] at hs
  have hbt : oneAt 3 b 0 = oneAt 3 t.text 0 := by
    rcases hr with rfl | ⟨r', rfl⟩
    · rw [List.append_nil] at hb
      rw [bytes_eq hb]
    · exact front_one hb (by decide) (by decide) (by decide) 3 h0
  rw [hs, hbt, ho]
  rfl
theorem joined_cons (t : ITok) (l : List ITok) : joined (t :: l) = t.text.data.toList ++ (match l with | [] => [] | u :: r => 32 :: joined (u :: r)) := by
  cases l with
  | nil => simp [joined]
  | cons u r => simp [joined]
theorem scan_joined (c : ByteArray) : ∀ (l : List Tok) (f k : Nat) (acc : List Tok), Owns l → k ≤ c.size → from_ c k = joined (l.map Tok.int) → c.size < f + k →
    (l ≠ [] → gapEnd false c k = k) ∧ scan 3 c f k acc = (acc ++ placed l k, 0, 0)
  | [], f, k, acc, _, hk, hf, hF => by
    have hz : ¬ k < c.size := by
      have := congrArg List.length hf
      rw [size_from] at this
      simp [joined] at this
      omega
    exact ⟨fun h => absurd rfl h, by rw [scan_end hz]; simp [placed]⟩
  | t :: l, f, k, acc, ho, hk, hf, hF => by
    have ht := ho t (by simp)
    have hl : Owns l := fun u hu => ho u (by simp [hu])
    rw [List.map_cons, joined_cons] at hf
    have hone := front_first (r := match l.map Tok.int with | [] => [] | u :: r => 32 :: joined (u :: r)) hf (by cases l with | nil => exact .inl rfl | cons u r => exact .inr ⟨_, rfl⟩) ht.1 ht.2 hk
    have hlt : k < c.size := by
      have := congrArg List.length hf
      rw [size_from, List.length_append] at this
      have e : t.int.text.data.toList.length = t.text.size := by simp [Tok.int]
      omega
    refine ⟨fun _ => gap_zero hlt (by rw [hone]), ?_⟩
    obtain ⟨f, rfl⟩ : ∃ f', f = f' + 1 := ⟨f - 1, by omega⟩
    rw [scan_ok hlt (by rw [hone]), hone]
    simp only
    have hok := oneAt_ok hlt (d := 3) (by rw [hone])
    rw [hone] at hok
    simp only at hok
    have hnext : from_ c (k + t.text.size) = (match l.map Tok.int with | [] => [] | u :: r => 32 :: joined (u :: r)) := by
      have e1 : from_ c (k + t.text.size) = (from_ c k).drop t.text.size := by unfold from_; rw [List.drop_drop]
      have e2 : t.text.size = t.int.text.data.toList.length := by simp [Tok.int]
      rw [e1, hf, e2, List.drop_append_length]
    cases l with
    | nil =>
      have hend : ¬ k + t.text.size < c.size := by
        have := congrArg List.length hnext
        rw [size_from] at this
        simp at this
        omega
      rw [gapEnd_end false (by omega), scan_end hend]
      simp [placed]
    | cons u r =>
      simp only [List.map_cons] at hnext
      have hlt2 : k + t.text.size < c.size := by
        have := congrArg List.length hnext
        rw [size_from] at this
        simp at this
        omega
      have hb : c[k + t.text.size] = 32 ∧ from_ c (k + t.text.size + 1) = joined ((u :: r).map Tok.int) := by
        rw [from_cons hlt2] at hnext
        injection hnext with n1 n2
        exact ⟨n1, n2⟩
      have ih := scan_joined c (u :: r) f (k + t.text.size + 1) (acc ++ [{ t with at_ := k }]) hl (by omega) hb.2 (by omega)
      rw [gapEnd_blank hlt2 (by rw [hb.1]; decide), ih.1 (by simp), ih.2]
      simp [placed]
/-- What is spelled of right tokens has these tokens. -/
theorem all_joined {l : List Tok} {c : ByteArray} (ho : Owns l) (hc : c.data.toList = joined (l.map Tok.int)) (hs : c.size ≤ 65536) : all c = (placed l 0, 0, 0) := by
  have hf : from_ c 0 = joined (l.map Tok.int) := by unfold from_; rw [hc, List.drop_zero]
  have h := scan_joined c l (c.size + 1) 0 [] ho (Nat.zero_le _) hf (by omega)
  unfold all
  rw [if_neg (by omega)]
  cases l with
  | nil =>
    have hz : c.size = 0 := by
      have := congrArg List.length hf
      rw [size_from] at this
      simpa [joined] using this
    rw [gapEnd_end false (by omega), h.2, List.nil_append]
  | cons t r => rw [h.1 (by simp), h.2, List.nil_append]
/-- The first places put back, the others not yet. -/
def mixed (k : Nat) (l : List Tok) : List Tok := l.take k ++ (placed l 0).drop k
theorem mixed_len (k : Nat) (l : List Tok) : (mixed k l).length = l.length := by unfold mixed; simp [placed_len]; omega
theorem mixed_zero (l : List Tok) : mixed 0 l = placed l 0 := by simp [mixed]
theorem mixed_all (l : List Tok) : mixed l.length l = l := by
  unfold mixed
  rw [List.take_length, List.drop_of_length_le (by rw [placed_len]; omega), List.append_nil]
theorem mixed_step {k : Nat} {l : List Tok} (h : k < l.length) : flat (mixed (k + 1) l) = (flat (mixed k l)).set (k * 4 + 3) (.int .i64 ((l[k].at_ : Nat) : Int)) := by
  unfold mixed
  have hp : k < (placed l 0).length := by rw [placed_len]; exact h
  have e1 : (placed l 0).drop k = (placed l 0)[k] :: (placed l 0).drop (k + 1) := List.drop_eq_getElem_cons hp
  have e2 : l.take (k + 1) = l.take k ++ [l[k]] := by rw [List.take_succ_eq_append_getElem h]
  have hl : (flat (l.take k)).length = k * 4 := by rw [flat_len]; simp; omega
  obtain ⟨a, ha⟩ := placed_get l 0 k h hp
  rw [e1, e2, flat_append, flat_append, flat_append, List.append_assoc, List.set_append, if_neg (by omega), hl, ha]
  congr 1
  rw [Nat.add_sub_cancel_left]
  rfl
theorem mixed_get {k : Nat} {l : List Tok} (h : k < l.length) : ∃ a : Nat, (flat (mixed k l))[k * 4 + 3]? = some (.int .i64 a) := by
  have hp : k < (placed l 0).length := by rw [placed_len]; exact h
  obtain ⟨a, ha⟩ := placed_get l 0 k h hp
  refine ⟨a, ?_⟩
  rw [flat_get (by rw [mixed_len]; exact h) 3 (by omega)]
  have : (mixed k l)[k]'(by rw [mixed_len]; exact h) = (placed l 0)[k] := by
    unfold mixed
    rw [List.getElem_append_right (by simp; omega)]
    simp [show k - min k l.length = 0 from by omega]
  rw [this, ha]
  rfl
end Tk
end Go.Proofs.Ytncjlaacpabkjaa
