/- The document's side: bracket, fields, steps, methods (printed by gen_rwithin.py). -/
import Derived.Test.YtoomlpalkinipaaDoorIdlT
set_option linter.unusedVariables false
set_option linter.unusedSimpArgs false
namespace Go.Proofs.YtoomlpalkinipaaDoor
open Go.RowKit
namespace Id
/-- The callees over one slice of tokens. -/
structure RC (w : World) (A : Option Addr) (l : List Tk.Tok) (n c : Nat) : Prop where
  len : n = l.length
  le : l.length ≤ 1000000
  well : WellT l
  rd : Tk.ReadT w A l
theorem RC.text {w : World} {A : Option Addr} {l : List Tk.Tok} {n c : Nat} (h : RC w A l n c) (W : World) (hb : Below w.heap.size w W) (i : Int) (s : St) (ha : At l i s) : Calls Tryd.prog 43 #[.slice A n c, .int .i64 i] W fun e w' => e = .returned (.string (word s)) ∧ w' = W := by
  rw [h.len]; exact rtext_any' A l c h.le i s ha W (h.rd.below hb)
theorem RC.step {w : World} {A : Option Addr} {l : List Tk.Tok} {n c : Nat} (h : RC w A l n c) (W : World) (hb : Below w.heap.size w W) (i : Int) (s : St) (ha : At l i s) (x : ByteArray) (hx : x.toList ≠ []) : Calls Tryd.prog 41 #[.slice A n c, .int .i64 i, .string x] W fun e w' => ∃ i', e = .returned (.int .i64 i') ∧ At l i' (want s x) ∧ w' = W := by
  rw [h.len]; exact rstep_any A l c h.le i s ha x hx W (h.rd.below hb)
theorem RC.name {w : World} {A : Option Addr} {l : List Tk.Tok} {n c : Nat} (h : RC w A l n c) (W : World) (hb : Below w.heap.size w W) (i : Int) (s : St) (ha : At l i s) : Calls Tryd.prog 42 #[.slice A n c, .int .i64 i] W fun e w' => ∃ i', e = .returned (.tuple #[.string (Id.name s).1, .int .i64 i']) ∧ At l i' (Id.name s).2 ∧ w' = W := by
  rw [h.len]; exact rname12_any A l c h.le i s ha W (h.rd.below hb)
theorem RC.sorts {w : World} {A : Option Addr} {l : List Tk.Tok} {n c : Nat} (h : RC w A l n c) (W : World) (hb : Below w.heap.size w W) (i : Int) (s : St) (ha : At l i s) : Calls Tryd.prog 28 #[.slice A n c, .int .i64 i] W fun e w' => ∃ v i', e = .returned (.tuple #[v, .int .i64 i']) ∧ At l i' (Id.sorts s).2 ∧ Below W.heap.size W w' ∧ SortsR w' (some W.heap.size) v (Id.sorts s).1 := by
  rw [h.len]; exact rsorts_any A l c h.le h.well i s ha W (h.rd.below hb)
theorem RC.bound {w : World} {A : Option Addr} {l : List Tk.Tok} {n c : Nat} (h : RC w A l n c) {i : Int} {s : St} (ha : At l i s) : -1000001 ≤ i ∧ i ≤ 1000000 := by
  have := h.le
  obtain ⟨k, hk, _, hi⟩ := ha
  split at hi <;> omega
theorem At.left {l : List Tk.Tok} {i : Int} {s : St} (h : At l i s) : s.1.length ≤ l.length := by
  obtain ⟨k, hk, e, _⟩ := h
  rw [e]; simp
theorem sLeft_l : sLeft.toList = [123] := by simp [sLeft, ByteArray.toList_mk]
theorem sRight_l : sRight.toList = [125] := by simp [sRight, ByteArray.toList_mk]
theorem sColon_l : sColon.toList = [58] := by simp [sColon, ByteArray.toList_mk]
theorem sSemi_l : sSemi.toList = [59] := by simp [sSemi, ByteArray.toList_mk]
theorem sOpen_l : sOpen.toList = [40] := by simp [sOpen, ByteArray.toList_mk]
theorem sClose_l : sClose.toList = [41] := by simp [sClose, ByteArray.toList_mk]
theorem sDot_l : sDot.toList = [46] := by simp [sDot, ByteArray.toList_mk]
theorem sArrow_l : sArrow.toList = [45, 62] := by simp [sArrow, ByteArray.toList_mk]
theorem wDo_l : wDo.toList = [100, 111] := by simp [wDo, ByteArray.toList_mk]
theorem wAt_l : wAt.toList = [97, 116] := by simp [wAt, ByteArray.toList_mk]
theorem wUndo_l : wUndo.toList = [117, 110, 100, 111] := by simp [wUndo, ByteArray.toList_mk]
theorem is_right (s : St) : is s sRight = ((word s).toList == [125]) := by rw [is_word (by rw [sRight_l]; simp), sRight_l]
/-- What is told of a row behind. -/
def RPost {α : Type} (w : World) (l : List Tk.Tok) (t : TypeId) (size : Nat) (E : World → List Value → α → Prop) (R : List α × St) (e : Ending) (w' : World) : Prop := ∃ v i' x, e = .returned (.tuple #[v, .int .i64 i']) ∧ At l i' R.2 ∧ Below w.heap.size w w' ∧ ERow w' (some w.heap.size) t size E v x ∧ (R.2.2 = false → x = R.1)
/-- A round's head. -/
structure RWAt {α : Type} (w : World) (l : List Tk.Tok) (read : St → α × St) (E : World → List Value → α → Prop) (t : TypeId) (size : Nat) (R : List α × St) (n : Nat) (i : Int) (v : Value) (wr : World) (s : St) (acc : List α) : Prop where
  at_ : At l i s
  fu : s.2 = false → s.1.length + 2 ≤ n
  fo : 1 ≤ n
  ln : s.2 = false → acc.length + s.1.length ≤ 1000000
  bel : Below w.heap.size w wr
  row : ERow wr (some w.heap.size) t size E v acc
  out : s.2 = false → withinF read n s acc = R
  bad : s.2 = true → R.2 = s
theorem withinF_bad {α : Type} {read : St → α × St} (f : Nat) {s : St} (acc : List α) (h : s.2 = true) : withinF read f s acc = (acc, s) := by
  cases f with
  | zero => rfl
  | succ f => unfold withinF; rw [if_pos h]
/-- Behind a round. -/
theorem within_next {α : Type} {read : St → α × St} {f : Nat} {r : List Tk.Tok} {acc : List α} {R : List α × St} {x : α} {s5 : St} (h : withinF read (f + 1) (r, false) acc = R) (hi : is (r, false) sRight = false) (hf : read (r, false) = (x, s5)) : (s5.2 = false → withinF read f s5 (acc ++ [x]) = R) ∧ (s5.2 = true → R.2 = s5) := by
  have h2 : withinF read f s5 (if s5.2 then acc else acc ++ [x]) = R := by rw [← h]; simp [withinF, hi, hf]
  constructor
  · intro hb
    rw [hb] at h2
    exact h2
  · intro hb
    rw [← h2, withinF_bad f _ hb]
theorem want_bad {s : St} {x : ByteArray} (h : s.2 = true) : want s x = s := by
  obtain ⟨r, b⟩ := s
  simp only at h
  subst h
  rfl
theorem one_bad {s : St} {k : Nat} {p : Tk.Tok → Bool} (h : s.2 = true) : one s k p = (⟨0, ⟨#[]⟩, 0, 0⟩, s) := by
  obtain ⟨r, b⟩ := s
  simp only at h
  subst h
  cases r <;> rfl
theorem name_bad {s : St} (h : s.2 = true) : name s = (⟨#[]⟩, s) := by unfold name; rw [one_bad h]
theorem num_bad {s : St} (h : s.2 = true) : num s = (0, s) := by unfold num; rw [one_bad h]
theorem words_bad {ws : List ByteArray} {s : St} (h : s.2 = true) : words ws s = (⟨#[]⟩, s) := by unfold words; rw [one_bad h]
theorem arg_bad {s : St} (h : s.2 = true) : arg s = (⟨#[]⟩, s) := by unfold arg; rw [want_bad h, name_bad h, want_bad h]
theorem words_word {ws : List ByteArray} {r : List Tk.Tok} (hw : ∀ t r', r = t :: r' → t.kind = 1 ∨ t.kind = 2 ∨ (t.kind = 3 ∧ t.text.size ≤ 2)) (h3 : ∀ x ∈ ws, 3 ≤ x.size) :
    words ws (r, false) = if (ws.any fun x => (word (r, false)).toList == x.toList) then (word (r, false), (r.tail, false)) else (⟨#[]⟩, (r, true)) := by
  have hsz : ∀ (a : ByteArray), a.size ≤ 2 → (ws.any fun x => a.toList == x.toList) = false := fun a ha => by
    rw [List.any_eq_false]
    intro x hx e
    have e2 := beq_iff_eq.1 e
    have h1 : a.toList.length = a.size := by rw [ByteArray.toList_eq]; simp
    have h2 : x.toList.length = x.size := by rw [ByteArray.toList_eq]; simp
    have := h3 x hx
    rw [e2, h2] at h1
    omega
  cases r with
  | nil =>
    have : word (([] : List Tk.Tok), false) = ⟨#[]⟩ := rfl
    rw [this, hsz _ (by decide)]
    rfl
  | cons t r' =>
    unfold words one
    rcases hw t r' rfl with h | h | ⟨h, h2⟩
    · have hwd : word (t :: r', false) = t.text := by simp [word, h]
      rw [hwd]
      by_cases hc : (ws.any fun x => t.text.toList == x.toList) = true
      · have ha : among ws t = true := hc
        simp [h, ha, hc]
      · rw [Bool.not_eq_true] at hc
        have ha : among ws t = false := hc
        simp [h, ha, hc]
    · have hwd : word (t :: r', false) = ⟨#[]⟩ := by simp [word, h]
      rw [hwd, hsz _ (by decide)]
      simp [h]
    · have hwd : word (t :: r', false) = t.text := by simp [word, h]
      rw [hwd, hsz _ h2]
      simp [h]
end Id
set_option maxRecDepth 100000 in
set_option maxHeartbeats 4000000 in
theorem rbracket_any (w0 : World) (A : Option Addr) (l : List Tk.Tok) (n c : Nat) (hrc : Id.RC w0 A l n c) (i : Int) (s : Id.St) (ha : Id.At l i s) (w : World) (hb : Below w0.heap.size w0 w) :
    Calls Tryd.prog 46 #[.slice A n c, .int .i64 i] w fun e w' => ∃ i', e = .returned (.tuple #[.string (Id.arg s).1, .int .i64 i']) ∧ Id.At l i' (Id.arg s).2 ∧ w' = w := by
  unfold Id.arg
  have HC := Lib.hid hrc
  have HB := Lib.hid hb
  clear hrc hb
  go_enter Tryd.func46, Tryd.ntmps46
  go_wp2_with fail
  refine (HC.out.step _ HB.out i s ha Id.sOpen (by rw [Id.sOpen_l]; simp)).mono ?_
  rintro e w1 ⟨i1, rfl, h1, hw⟩
  obtain rfl := hw.symm
  go_wp2_with fail
  refine (HC.out.name _ HB.out i1 _ h1).mono ?_
  rintro e w2 ⟨i2, rfl, h2, hw⟩
  obtain rfl := hw.symm
  go_wp2_with fail
  refine (HC.out.step _ HB.out i2 _ h2 Id.sClose (by rw [Id.sClose_l]; simp)).mono ?_
  rintro e w3 ⟨i3, rfl, h3, hw⟩
  obtain rfl := hw.symm
  go_wp2_with fail
  go_ret2
  exact ⟨_, rfl, h3, rfl⟩
set_option maxRecDepth 100000 in
set_option maxHeartbeats 8000000 in
theorem rfields_any (w0 : World) (A : Option Addr) (l : List Tk.Tok) (n c : Nat) (hrc : Id.RC w0 A l n c) (i : Int) (s : Id.St) (ha : Id.At l i s) (w : World) (hb : Below w0.heap.size w0 w) :
    Calls Tryd.prog 44 #[.slice A n c, .int .i64 i] w (Id.RPost w l 64 2 (Id.FldE (some w.heap.size)) (Id.within Id.field s)) := by
  obtain ⟨R, HR⟩ : ∃ R, Hid (Id.within Id.field s = R) := ⟨_, Lib.hid rfl⟩
  rw [HR.out]
  have HC := Lib.hid hrc
  have HB := Lib.hid hb
  have hw0 := hb.size
  clear hrc hb
  go_enter Tryd.func44, Tryd.ntmps44
  go_wp2_with fail
  refine (HC.out.step _ HB.out i s ha Id.sLeft (by rw [Id.sLeft_l]; simp)).mono ?_
  rintro e w1 ⟨i1, rfl, h1, hw⟩
  obtain rfl := hw.symm
  obtain ⟨s1, H1⟩ : ∃ T, Hid (Id.want s Id.sLeft = T) := ⟨_, Lib.hid rfl⟩
  rw [H1.out] at h1
  have HA0 := Lib.hid (show Id.RWAt w l Id.field (Id.FldE (some w.heap.size)) 64 2 R (s1.1.length + 2) i1 (.slice none 0 0) w s1 [] from ⟨h1, fun _ => Nat.le_refl _, by omega, fun _ => by have := h1.left; have := HC.out.le; simp; omega, Below.refl _ _, ERow.nil _ _ _ _ _, fun _ => by rw [← HR.out]; unfold Id.within; rw [H1.out], fun hb => by rw [← HR.out]; unfold Id.within; rw [H1.out]; obtain ⟨r, b⟩ := s1; simp only at hb; subst hb; rfl⟩)
  clear h1 ha
  go_wp2_with fail
  go_loopg [1, 6] (s1.1.length + 2) (fun m vi vl wr => ∃ (j : Int) (s : Id.St) (acc : List Id.Fld) (lv : Value), lv = vl ∧ vi = .int .i64 j ∧ Hid (Id.RWAt w l Id.field (Id.FldE (some w.heap.size)) 64 2 R m j lv wr s acc))
  case atStart => exact ⟨i1, s1, [], _, rfl, rfl, HA0⟩
  case round =>
    obtain ⟨j, s, acc, lv, rfl, rfl, HA⟩ := hrel
    obtain ⟨f, rfl⟩ : ∃ f, gk = f + 1 := ⟨gk - 1, by have := HA.out.fo; omega⟩
    have hln := HA.out.ln
    have hfu := HA.out.fu
    have hbz := HA.out.bel.size
    obtain ⟨hj1, hj2⟩ := HC.out.bound HA.out.at_
    obtain ⟨r, bad⟩ := s
    simp only at hln hfu
    cases bad
    case true =>
      have hj3 := HA.out.at_.bad rfl
      have hj4 : decide (0 ≤ j) = false := by simp; omega
      have hj5 : ¬ 0 ≤ j := by omega
      have hj6 : decide (j < 0) = true := by simpa using hj3
      have HRb := Lib.hid (HA.out.bad rfl)
      clear hfu hln
      go_wp2_with fail
      go_ret2
      exact ⟨_, _, [], rfl, by rw [HRb.out]; exact HA.out.at_, HA.out.bel, ERow.nil _ _ _ _ _, fun e => by rw [HRb.out] at e; cases e⟩
    obtain ⟨hj3, _⟩ := HA.out.at_.good rfl
    have hj4 : decide (0 ≤ j) = true := by simpa using hj3
    have hj5 : ¬ j < 0 := by omega
    have hj6 : decide (j < 0) = false := by simpa using hj3
    replace hfu := hfu rfl
    replace hln := hln rfl
    have HO := Lib.hid (HA.out.out rfl)
    have HBW := Lib.hid (HB.out.trans (HA.out.bel.mono hw0))
    have hbz0 := HBW.out.size
    have HIR := Lib.hid (Id.is_right (r, false))
    go_wp2_with fail
    refine (HC.out.text _ HBW.out j _ HA.out.at_).mono ?_
    rintro e wq ⟨rfl, hw⟩
    obtain rfl := hw.symm
    obtain ⟨y, HY⟩ : ∃ y, Hid (Id.word (r, false) = y) := ⟨_, Lib.hid rfl⟩
    rw [HY.out]
    by_cases ey : y.toList = [125]
    · have t1 : (y.toList == [125]) = true := beq_iff_eq.2 ey
      have hi : Id.is (r, false) Id.sRight = true := by rw [HIR.out, HY.out]; exact t1
      have HE : Hid (R = (acc, (r.tail, false))) := Lib.hid (by rw [← HO.out]; simp [Id.withinF, hi])
      obtain ⟨t, r', hr'⟩ := Id.is_cons hi
      injection hr' with hr' _
      subst hr'
      clear ey hi
      go_wp2_with fail
      go_ret2
      exact ⟨_, _, acc, rfl, by rw [HE.out]; exact HA.out.at_.next, HA.out.bel, HA.out.row, fun _ => by rw [HE.out]⟩
    have t1 : (y.toList == [125]) = false := beq_eq_false_iff_ne.2 ey
    have HI : Hid (Id.is (r, false) Id.sRight = false) := Lib.hid (by rw [HIR.out, HY.out]; exact t1)
    have HRL := Lib.hid (Id.field_le (r, false))
    have HRG := Lib.hid (@Id.field_good (r, false))
    clear ey
    obtain ⟨⟨nm, s2⟩, H2⟩ : ∃ T, Hid (Id.name (r, false) = T) := ⟨_, Lib.hid rfl⟩
    obtain ⟨s3, H3⟩ : ∃ T, Hid (Id.want s2 Id.sColon = T) := ⟨_, Lib.hid rfl⟩
    obtain ⟨⟨ty, s4⟩, H4⟩ : ∃ T, Hid (Id.sorts s3 = T) := ⟨_, Lib.hid rfl⟩
    obtain ⟨s5, H5⟩ : ∃ T, Hid (Id.want s4 Id.sSemi = T) := ⟨_, Lib.hid rfl⟩
    have HF : Hid (Id.field (r, false) = (⟨nm, ty⟩, s5)) := Lib.hid (by simp only [Id.field, H2.out, H3.out, H4.out, H5.out])
    replace HRL := Lib.hid (by have := HRL.out; rw [HF.out] at this; exact this)
    replace HRG := Lib.hid (by have := HRG.out; rw [HF.out] at this; exact this)
    have hrl := HRL.out
    simp only at hrl
    replace HRG : Hid (s5.2 = false → s5.1.length < r.length) := HRG
    have HBl := Lib.hid ((Below.refl wr.heap.size wr).alloc (Nat.le_refl _) (.cells #[.string ⟨#[]⟩, .slice none 0 0] 64))
    go_wp2_with fail
    refine (HC.out.name _ (HBW.out.trans (HBl.out.mono hbz0)) j _ HA.out.at_).mono ?_
    rintro e wq ⟨i2, rfl, hi2, hw⟩
    obtain rfl := hw.symm
    rw [H2.out] at hi2 ⊢
    simp only at hi2 ⊢
    clear HBl
    go_wp2_with fail
    have hq := Bk.new wr 64 #[.string nm, .slice none 0 0]
    have HBl := Lib.hid ((Below.refl wr.heap.size wr).alloc (Nat.le_refl _) (.cells #[.string nm, .slice none 0 0] 64))
    generalize (wr.alloc (.cells #[.string nm, .slice none 0 0] 64)) = W1 at *
    refine (HC.out.step _ (HBW.out.trans (HBl.out.mono hbz0)) i2 _ hi2 Id.sColon (by rw [Id.sColon_l]; simp)).mono ?_
    rintro e wq ⟨i3, rfl, hi3, hw⟩
    obtain rfl := hw.symm
    rw [H3.out] at hi3
    go_wp2_with fail
    refine (HC.out.sorts _ (HBW.out.trans (HBl.out.mono hbz0)) i3 _ hi3).mono ?_
    rintro e W3 ⟨v3, i4, rfl, hi4, hb3, hr3⟩
    rw [H4.out] at hi4 hr3
    simp only at hi4 hr3
    obtain ⟨A5, n5, c5, rfl⟩ := ERow.is hr3
    have hz1 := HBl.out.size
    replace hq := hq.below hb3 hq.lt
    have HSR : Hid (Id.SortsR W3 (some w.heap.size) (.slice A5 n5 c5) ty) := Lib.hid (ERow.mono hr3 (fun _ _ h => h.weak (fun b' e => ⟨_, rfl, by injection e with e; omega⟩)) (fun _ _ h => h))
    replace HBl := Lib.hid (HBl.out.trans (hb3.mono hz1))
    clear hb3 hr3 hz1
    obtain ⟨⟨f0, f1⟩, g0, g1⟩ := hq.k2
    go_wp2_with fail
    clear f0 f1 g0 g1
    replace HSR : Hid (Id.SortsR (W3.setCell ⟨wr.heap.size, 1, none⟩ (.slice A5 n5 c5)) (some w.heap.size) (.slice A5 n5 c5) ty) := Lib.hid (ERow.kp HSR.out ((Only.set hq 1 (.slice A5 n5 c5)).kp w.heap.size (T := [78]) (by decide)) (Nat.le_refl _) (List.mem_singleton.2 rfl) (fun _ _ h => h))
    replace HBl := Lib.hid (HBl.out.setCell (p := ⟨wr.heap.size, 1, none⟩) (Nat.le_refl _) (.slice A5 n5 c5))
    replace hq : Bk (W3.setCell ⟨wr.heap.size, 1, none⟩ (.slice A5 n5 c5)) wr.heap.size 64 #[.string nm, .slice A5 n5 c5] := hq.set_ 1 (.slice A5 n5 c5)
    generalize (W3.setCell ⟨wr.heap.size, 1, none⟩ (.slice A5 n5 c5)) = W4 at *
    refine (HC.out.step _ (HBW.out.trans (HBl.out.mono hbz0)) i4 _ hi4 Id.sSemi (by rw [Id.sSemi_l]; simp)).mono ?_
    rintro e wq ⟨i5, rfl, hi5, hw⟩
    obtain rfl := hw.symm
    rw [H5.out] at hi5
    obtain ⟨⟨f0, f1⟩, g0, g1⟩ := hq.k2
    have HRO := Lib.hid (ERow.below HA.out.row HBl.out (Id.FldE.below HBl.out))
    have hsz := HBl.out.size
    go_wp2_with (at_builtin; go_must (refine wpList_append_el rfl _ _ _ rfl w.heap.size 64 _ 2 40 Tryd.underlying52 Id.info_field rfl (by decide) (Id.FldE (some w.heap.size)) lv acc rfl HRO.out [.string nm, .slice A5 n5 c5] rfl _ rfl rfl (by simp [Value.oneCell']) (by simp only [maxLen]; omega) (by omega) (by omega) ?_); intro v' w9 hrow9 hb9 ho9; have HROW := Lib.hid hrow9; have HB9 := Lib.hid ((HA.out.bel.trans (HBl.out.mono hbz)).trans hb9); have HO9 := Lib.hid ho9; clear hrow9 hb9 ho9)
    have hnx := Id.within_next HO.out HI.out HF.out
    go_roundg f
    case rel => exact ⟨_, s5, acc ++ [⟨nm, ty⟩], v', rfl, rfl, Lib.hid ⟨hi5, fun hb => by have := HRG.out hb; omega, by omega, fun hb => by have := HRG.out hb; simp; omega, HB9.out, HROW.out ⟨nm, ty⟩ (Id.FldE.kp (HO9.out.kp w.heap.size (T := [78]) (by decide)) (Nat.le_refl _) (by simp)) ⟨_, rfl, Id.Srt.e_kp (HO9.out.kp w.heap.size (T := [78]) (by decide)) (Nat.le_refl _) (by simp) HSR.out⟩, hnx.1, hnx.2⟩⟩
    case measure => omega
set_option maxRecDepth 100000 in
set_option maxHeartbeats 8000000 in
theorem rsteps_any (w0 : World) (A : Option Addr) (l : List Tk.Tok) (n c : Nat) (hrc : Id.RC w0 A l n c) (i : Int) (s : Id.St) (ha : Id.At l i s) (w : World) (hb : Below w0.heap.size w0 w) :
    Calls Tryd.prog 47 #[.slice A n c, .int .i64 i] w (Id.RPost w l 66 3 Id.StpE (Id.within Id.step s)) := by
  obtain ⟨R, HR⟩ : ∃ R, Hid (Id.within Id.step s = R) := ⟨_, Lib.hid rfl⟩
  rw [HR.out]
  have HC := Lib.hid hrc
  have HB := Lib.hid hb
  have hw0 := hb.size
  clear hrc hb
  go_enter Tryd.func47, Tryd.ntmps47
  go_wp2_with fail
  refine (HC.out.step _ HB.out i s ha Id.sLeft (by rw [Id.sLeft_l]; simp)).mono ?_
  rintro e w1 ⟨i1, rfl, h1, hw⟩
  obtain rfl := hw.symm
  obtain ⟨s1, H1⟩ : ∃ T, Hid (Id.want s Id.sLeft = T) := ⟨_, Lib.hid rfl⟩
  rw [H1.out] at h1
  have HA0 := Lib.hid (show Id.RWAt w l Id.step Id.StpE 66 3 R (s1.1.length + 2) i1 (.slice none 0 0) w s1 [] from ⟨h1, fun _ => Nat.le_refl _, by omega, fun _ => by have := h1.left; have := HC.out.le; simp; omega, Below.refl _ _, ERow.nil _ _ _ _ _, fun _ => by rw [← HR.out]; unfold Id.within; rw [H1.out], fun hb => by rw [← HR.out]; unfold Id.within; rw [H1.out]; obtain ⟨r, b⟩ := s1; simp only at hb; subst hb; rfl⟩)
  clear h1 ha
  go_wp2_with fail
  go_loopg [1, 6] (s1.1.length + 2) (fun m vi vl wr => ∃ (j : Int) (s : Id.St) (acc : List Id.Stp) (lv : Value), lv = vl ∧ vi = .int .i64 j ∧ Hid (Id.RWAt w l Id.step Id.StpE 66 3 R m j lv wr s acc))
  case atStart => exact ⟨i1, s1, [], _, rfl, rfl, HA0⟩
  case round =>
    obtain ⟨j, s, acc, lv, rfl, rfl, HA⟩ := hrel
    obtain ⟨f, rfl⟩ : ∃ f, gk = f + 1 := ⟨gk - 1, by have := HA.out.fo; omega⟩
    have hln := HA.out.ln
    have hfu := HA.out.fu
    have hbz := HA.out.bel.size
    obtain ⟨hj1, hj2⟩ := HC.out.bound HA.out.at_
    obtain ⟨r, bad⟩ := s
    simp only at hln hfu
    cases bad
    case true =>
      have hj3 := HA.out.at_.bad rfl
      have hj4 : decide (0 ≤ j) = false := by simp; omega
      have hj5 : ¬ 0 ≤ j := by omega
      have hj6 : decide (j < 0) = true := by simpa using hj3
      have HRb := Lib.hid (HA.out.bad rfl)
      clear hfu hln
      go_wp2_with fail
      go_ret2
      exact ⟨_, _, [], rfl, by rw [HRb.out]; exact HA.out.at_, HA.out.bel, ERow.nil _ _ _ _ _, fun e => by rw [HRb.out] at e; cases e⟩
    obtain ⟨hj3, _⟩ := HA.out.at_.good rfl
    have hj4 : decide (0 ≤ j) = true := by simpa using hj3
    have hj5 : ¬ j < 0 := by omega
    have hj6 : decide (j < 0) = false := by simpa using hj3
    replace hfu := hfu rfl
    replace hln := hln rfl
    have HO := Lib.hid (HA.out.out rfl)
    have HBW := Lib.hid (HB.out.trans (HA.out.bel.mono hw0))
    have hbz0 := HBW.out.size
    have HIR := Lib.hid (Id.is_right (r, false))
    go_wp2_with fail
    refine (HC.out.text _ HBW.out j _ HA.out.at_).mono ?_
    rintro e wq ⟨rfl, hw⟩
    obtain rfl := hw.symm
    obtain ⟨y, HY⟩ : ∃ y, Hid (Id.word (r, false) = y) := ⟨_, Lib.hid rfl⟩
    rw [HY.out]
    by_cases ey : y.toList = [125]
    · have t1 : (y.toList == [125]) = true := beq_iff_eq.2 ey
      have hi : Id.is (r, false) Id.sRight = true := by rw [HIR.out, HY.out]; exact t1
      have HE : Hid (R = (acc, (r.tail, false))) := Lib.hid (by rw [← HO.out]; simp [Id.withinF, hi])
      obtain ⟨t, r', hr'⟩ := Id.is_cons hi
      injection hr' with hr' _
      subst hr'
      clear ey hi
      go_wp2_with fail
      go_ret2
      exact ⟨_, _, acc, rfl, by rw [HE.out]; exact HA.out.at_.next, HA.out.bel, HA.out.row, fun _ => by rw [HE.out]⟩
    have t1 : (y.toList == [125]) = false := beq_eq_false_iff_ne.2 ey
    have HI : Hid (Id.is (r, false) Id.sRight = false) := Lib.hid (by rw [HIR.out, HY.out]; exact t1)
    have HRL := Lib.hid (Id.step_le (r, false))
    have HRG := Lib.hid (@Id.step_good (r, false))
    clear ey
    obtain ⟨s2, H2⟩ : ∃ T, Hid (Id.want (r, false) Id.wDo = T) := ⟨_, Lib.hid rfl⟩
    obtain ⟨⟨n1, s3⟩, H3⟩ : ∃ T, Hid (Id.name s2 = T) := ⟨_, Lib.hid rfl⟩
    obtain ⟨s4, H4⟩ : ∃ T, Hid (Id.want s3 Id.sDot = T) := ⟨_, Lib.hid rfl⟩
    obtain ⟨⟨n2, s5⟩, H5⟩ : ∃ T, Hid (Id.name s4 = T) := ⟨_, Lib.hid rfl⟩
    obtain ⟨s6, H6⟩ : ∃ T, Hid (Id.want s5 Id.wAt = T) := ⟨_, Lib.hid rfl⟩
    obtain ⟨⟨tn, s7⟩, H7⟩ : ∃ T, Hid (Id.num s6 = T) := ⟨_, Lib.hid rfl⟩
    obtain ⟨s8, H8⟩ : ∃ T, Hid (Id.want s7 Id.sSemi = T) := ⟨_, Lib.hid rfl⟩
    have HF : Hid (Id.step (r, false) = (⟨n1, n2, tn⟩, s8)) := Lib.hid (by simp only [Id.step, H2.out, H3.out, H4.out, H5.out, H6.out, H7.out, H8.out])
    replace HRL := Lib.hid (by have := HRL.out; rw [HF.out] at this; exact this)
    replace HRG := Lib.hid (by have := HRG.out; rw [HF.out] at this; exact this)
    have hrl := HRL.out
    simp only at hrl
    replace HRG : Hid (s8.2 = false → s8.1.length < r.length) := HRG
    have HBl := Lib.hid ((Below.refl wr.heap.size wr).alloc (Nat.le_refl _) (.cells #[.string ⟨#[]⟩, .string ⟨#[]⟩, .int .i64 0] 66))
    go_wp2_with fail
    refine (HC.out.step _ (HBW.out.trans (HBl.out.mono hbz0)) j _ HA.out.at_ Id.wDo (by rw [Id.wDo_l]; simp)).mono ?_
    rintro e wq ⟨i2, rfl, hi2, hw⟩
    obtain rfl := hw.symm
    rw [H2.out] at hi2
    go_wp2_with fail
    refine (HC.out.name _ (HBW.out.trans (HBl.out.mono hbz0)) i2 _ hi2).mono ?_
    rintro e wq ⟨i3, rfl, hi3, hw⟩
    obtain rfl := hw.symm
    rw [H3.out] at hi3 ⊢
    simp only at hi3 ⊢
    clear HBl
    go_wp2_with fail
    have hq := Bk.new wr 66 #[.string n1, .string ⟨#[]⟩, .int .i64 0]
    have HBl := Lib.hid ((Below.refl wr.heap.size wr).alloc (Nat.le_refl _) (.cells #[.string n1, .string ⟨#[]⟩, .int .i64 0] 66))
    generalize (wr.alloc (.cells #[.string n1, .string ⟨#[]⟩, .int .i64 0] 66)) = W1 at *
    refine (HC.out.step _ (HBW.out.trans (HBl.out.mono hbz0)) i3 _ hi3 Id.sDot (by rw [Id.sDot_l]; simp)).mono ?_
    rintro e wq ⟨i4, rfl, hi4, hw⟩
    obtain rfl := hw.symm
    rw [H4.out] at hi4
    go_wp2_with fail
    refine (HC.out.name _ (HBW.out.trans (HBl.out.mono hbz0)) i4 _ hi4).mono ?_
    rintro e wq ⟨i5, rfl, hi5, hw⟩
    obtain rfl := hw.symm
    rw [H5.out] at hi5 ⊢
    simp only at hi5 ⊢
    obtain ⟨⟨f0, f1, f2⟩, g0, g1, g2⟩ := hq.k3
    go_wp2_with fail
    clear f0 f1 f2 g0 g1 g2
    replace HBl := Lib.hid (HBl.out.setCell (p := ⟨wr.heap.size, 1, none⟩) (Nat.le_refl _) (.string n2))
    replace hq : Bk (W1.setCell ⟨wr.heap.size, 1, none⟩ (.string n2)) wr.heap.size 66 #[.string n1, .string n2, .int .i64 0] := hq.set_ 1 (.string n2)
    generalize (W1.setCell ⟨wr.heap.size, 1, none⟩ (.string n2)) = W2 at *
    refine (HC.out.step _ (HBW.out.trans (HBl.out.mono hbz0)) i5 _ hi5 Id.wAt (by rw [Id.wAt_l]; simp)).mono ?_
    rintro e wq ⟨i6, rfl, hi6, hw⟩
    obtain rfl := hw.symm
    rw [H6.out] at hi6
    have hnx0 := Id.within_next HO.out HI.out HF.out
    obtain ⟨hb61, hb62⟩ := HC.out.bound hi6
    obtain ⟨r6, bad6⟩ := s6
    cases bad6
    case true =>
      have hs7 := Id.num_bad (s := (r6, true)) rfl
      rw [H7.out] at hs7
      injection hs7 with e1 e2
      subst e1 e2
      have hj7 := hi6.bad rfl
      have hj8 : decide (0 ≤ i6) = false := by simp; omega
      have hj9 : ¬ 0 ≤ i6 := by omega
      go_wp2_with fail
      have hi7 := hi6
      refine (HC.out.step _ (HBW.out.trans (HBl.out.mono hbz0)) i6 _ hi7 Id.sSemi (by rw [Id.sSemi_l]; simp)).mono ?_
      rintro e wq ⟨i8, rfl, hi8, hw⟩
      obtain rfl := hw.symm
      rw [H8.out] at hi8
      obtain ⟨⟨f0, f1, f2⟩, g0, g1, g2⟩ := hq.k3
      have HRO := Lib.hid (ERow.below HA.out.row HBl.out Id.StpE.kp)
      have hsz := HBl.out.size
      go_wp2_with (at_builtin; go_must (refine wpList_append_el rfl _ _ _ rfl w.heap.size 66 _ 3 40 Tryd.underlying60 Id.info_step rfl (by decide) Id.StpE lv acc rfl HRO.out [.string n1, .string n2, .int .i64 0] rfl _ rfl rfl (by simp [Value.oneCell']) (by simp only [maxLen]; omega) (by omega) (by omega) ?_); intro v' w9 hrow9 hb9 ho9; have HROW := Lib.hid hrow9; have HB9 := Lib.hid ((HA.out.bel.trans (HBl.out.mono hbz)).trans hb9); have HO9 := Lib.hid ho9; clear hrow9 hb9 ho9)
      have hnx := Id.within_next HO.out HI.out HF.out
      go_roundg f
      case rel => exact ⟨_, s8, acc ++ [⟨n1, n2, 0⟩], v', rfl, rfl, Lib.hid ⟨hi8, fun hb => by have := HRG.out hb; omega, by omega, fun hb => by have := HRG.out hb; simp; omega, HB9.out, HROW.out ⟨n1, n2, 0⟩ Id.StpE.kp rfl, hnx.1, hnx.2⟩⟩
      case measure => omega
    have hj7 := (hi6.good rfl).1
    have hj8 : decide (0 ≤ i6) = true := by simpa using hj7
    rcases hi6.cases with ⟨hb, _⟩ | ⟨he, hik⟩ | ⟨k, hk, he, hik⟩
    · cases hb
    · injection he with he _
      subst he
      have hs7 : Id.num (([] : List Tk.Tok), false) = (0, ([], true)) := rfl
      rw [H7.out] at hs7
      injection hs7 with e1 e2
      subst e1 e2
      have hs8 := H8.out
      rw [Id.want_bad rfl] at hs8
      subst hs8
      have HRb := Lib.hid (hnx0.2 rfl)
      have hik2 : (n : Int) ≤ i6 := by rw [HC.out.len]; omega
      clear hik hnx0
      go_wp2_with fail
      go_ret2
      exact ⟨_, _, [], rfl, by rw [HRb.out]; exact hi6.fault, HA.out.bel.trans (HBl.out.mono hbz), ERow.nil _ _ _ _ _, fun e => by rw [HRb.out] at e; cases e⟩
    · subst hik
      injection he with he _
      obtain ⟨t, ht⟩ : ∃ t, t = l[k] := ⟨_, rfl⟩
      obtain ⟨g, off, rfl, hcs⟩ := (HC.out.rd.below (HBW.out.trans (HBl.out.mono hbz0))) (by omega)
      obtain ⟨t0, t1', t2, t3⟩ := hcs k hk
      rw [← ht] at t0 t1' t2 t3 he
      subst he
      have i1' : (0 : Int) ≤ (k : Int) := by omega
      have i2' : (k : Int) < (n : Int) := by rw [HC.out.len]; omega
      have i3' : k < n := by omega
      have hgl : g < W2.heap.size := World.block_lt_of_cell? W2 _ t0
      clear hcs ht
      obtain ⟨tk, tt, tn2, ta⟩ := t
      simp only at t0 t1' t2 t3
      by_cases hk2 : tk = 2
      case neg =>
        have tk2 : ((tk : Int) != 2) = true := by rw [bne_iff_ne]; omega
        have hs7 : Id.num (⟨tk, tt, tn2, ta⟩ :: l.drop (k + 1), false) = (0, (⟨tk, tt, tn2, ta⟩ :: l.drop (k + 1), true)) := by unfold Id.num Id.one; simp [hk2]
        rw [H7.out] at hs7
        injection hs7 with e1 e2
        subst e1 e2
        have hs8 := H8.out
        rw [Id.want_bad rfl] at hs8
        subst hs8
        have HRb := Lib.hid (hnx0.2 rfl)
        have HI6 := Lib.hid hi6.fault
        clear hnx0 hk2 hi6
        go_wp2_with fail
        go_ret2
        exact ⟨_, _, [], rfl, by rw [HRb.out]; exact HI6.out, HA.out.bel.trans (HBl.out.mono hbz), ERow.nil _ _ _ _ _, fun e => by rw [HRb.out] at e; cases e⟩
      subst hk2
      have hs7 : Id.num (⟨2, tt, tn2, ta⟩ :: l.drop (k + 1), false) = (tn2, (l.drop (k + 1), false)) := by unfold Id.num Id.one; simp
      rw [H7.out] at hs7
      injection hs7 with e1 e2
      subst e1 e2
      have hi7 := hi6.next
      clear hnx0 hi6
      obtain ⟨⟨f0, f1, f2⟩, g0, g1, g2⟩ := hq.k3
      go_wp2_with fail
      clear f0 f1 f2 g0 g1 g2
      clear t0 t1' t2 t3 hgl
      replace HBl := Lib.hid (HBl.out.setCell (p := ⟨wr.heap.size, 2, none⟩) (Nat.le_refl _) (.int .i64 tn))
      replace hq : Bk (W2.setCell ⟨wr.heap.size, 2, none⟩ (.int .i64 tn)) wr.heap.size 66 #[.string n1, .string n2, .int .i64 tn] := hq.set_ 2 (.int .i64 tn)
      generalize (W2.setCell ⟨wr.heap.size, 2, none⟩ (.int .i64 tn)) = W3 at *
      refine (HC.out.step _ (HBW.out.trans (HBl.out.mono hbz0)) _ _ hi7 Id.sSemi (by rw [Id.sSemi_l]; simp)).mono ?_
      rintro e wq ⟨i8, rfl, hi8, hw⟩
      obtain rfl := hw.symm
      rw [H8.out] at hi8
      obtain ⟨⟨f0, f1, f2⟩, g0, g1, g2⟩ := hq.k3
      have HRO := Lib.hid (ERow.below HA.out.row HBl.out Id.StpE.kp)
      have hsz := HBl.out.size
      go_wp2_with (at_builtin; go_must (refine wpList_append_el rfl _ _ _ rfl w.heap.size 66 _ 3 40 Tryd.underlying60 Id.info_step rfl (by decide) Id.StpE lv acc rfl HRO.out [.string n1, .string n2, .int .i64 tn] rfl _ rfl rfl (by simp [Value.oneCell']) (by simp only [maxLen]; omega) (by omega) (by omega) ?_); intro v' w9 hrow9 hb9 ho9; have HROW := Lib.hid hrow9; have HB9 := Lib.hid ((HA.out.bel.trans (HBl.out.mono hbz)).trans hb9); have HO9 := Lib.hid ho9; clear hrow9 hb9 ho9)
      have hnx := Id.within_next HO.out HI.out HF.out
      go_roundg f
      case rel => exact ⟨_, s8, acc ++ [⟨n1, n2, tn⟩], v', rfl, rfl, Lib.hid ⟨hi8, fun hb => by have := HRG.out hb; omega, by omega, fun hb => by have := HRG.out hb; simp; omega, HB9.out, HROW.out ⟨n1, n2, tn⟩ Id.StpE.kp rfl, hnx.1, hnx.2⟩⟩
      case measure => omega
namespace Id
theorem wGive_l : wGive.toList = [103, 105, 118, 101] := by simp [wGive, ByteArray.toList_mk]
theorem wTake_l : wTake.toList = [116, 97, 107, 101] := by simp [wTake, ByteArray.toList_mk]
theorem wNote_l : wNote.toList = [110, 111, 116, 101] := by simp [wNote, ByteArray.toList_mk]
theorem wInt_l : wInt.toList = [105, 110, 116] := by simp [wInt, ByteArray.toList_mk]
theorem wNone_l : wNone.toList = [110, 111, 110, 101] := by simp [wNone, ByteArray.toList_mk]
theorem effects_cases {r : List Tk.Tok} {y : ByteArray} (hw : ∀ t r', r = t :: r' → t.kind = 1 ∨ t.kind = 2 ∨ (t.kind = 3 ∧ t.text.size ≤ 2)) (hy : word (r, false) = y) :
    ((y.toList == [103, 105, 118, 101]) = false ∧ (y.toList == [116, 97, 107, 101]) = false ∧ (y.toList == [110, 111, 116, 101]) = false ∧ words [wGive, wTake, wNote] (r, false) = (⟨#[]⟩, (r, true))) ∨
    (((y.toList == [103, 105, 118, 101]) = true ∨ ((y.toList == [103, 105, 118, 101]) = false ∧ (y.toList == [116, 97, 107, 101]) = true) ∨ ((y.toList == [103, 105, 118, 101]) = false ∧ (y.toList == [116, 97, 107, 101]) = false ∧ (y.toList == [110, 111, 116, 101]) = true)) ∧ ∃ t r', r = t :: r' ∧ words [wGive, wTake, wNote] (r, false) = (y, (r', false))) := by
  have hx := words_word (ws := [wGive, wTake, wNote]) hw (by intro x hx; simp at hx; rcases hx with rfl | rfl | rfl <;> decide)
  rw [hy] at hx
  simp only [List.any_cons, List.any_nil, Bool.or_false, wGive_l, wTake_l, wNote_l] at hx
  have hne : ∀ x : List UInt8, x ≠ [] → (y.toList == x) = true → ∃ t r', r = t :: r' := fun x h0 h => by
    cases r with
    | nil =>
      have : y = ⟨#[]⟩ := hy.symm
      rw [this, empty_toList] at h
      exact absurd (beq_iff_eq.1 h).symm h0
    | cons t r' => exact ⟨t, r', rfl⟩
  cases h1 : (y.toList == [103, 105, 118, 101])
  · cases h2 : (y.toList == [116, 97, 107, 101])
    · cases h3 : (y.toList == [110, 111, 116, 101])
      · rw [h1, h2, h3] at hx
        exact .inl ⟨rfl, rfl, rfl, hx⟩
      · obtain ⟨t, r', rfl⟩ := hne _ (by simp) h3
        rw [h1, h2, h3] at hx
        exact .inr ⟨.inr (.inr ⟨rfl, rfl, rfl⟩), t, r', rfl, hx⟩
    · obtain ⟨t, r', rfl⟩ := hne _ (by simp) h2
      rw [h1, h2] at hx
      exact .inr ⟨.inr (.inl ⟨rfl, rfl⟩), t, r', rfl, hx⟩
  · obtain ⟨t, r', rfl⟩ := hne _ (by simp) h1
    rw [h1] at hx
    exact .inr ⟨.inl rfl, t, r', rfl, hx⟩
theorem result_cases {r : List Tk.Tok} {y : ByteArray} (hw : ∀ t r', r = t :: r' → t.kind = 1 ∨ t.kind = 2 ∨ (t.kind = 3 ∧ t.text.size ≤ 2)) (hy : word (r, false) = y) :
    ((y.toList == [105, 110, 116]) = false ∧ (y.toList == [110, 111, 110, 101]) = false ∧ words [wInt, wNone] (r, false) = (⟨#[]⟩, (r, true))) ∨
    ((y.toList == [105, 110, 116]) = true ∧ endW y = 3 ∧ ∃ t r', r = t :: r' ∧ words [wInt, wNone] (r, false) = (y, (r', false))) ∨
    ((y.toList == [105, 110, 116]) = false ∧ (y.toList == [110, 111, 110, 101]) = true ∧ endW y = 1 ∧ ∃ t r', r = t :: r' ∧ words [wInt, wNone] (r, false) = (y, (r', false))) := by
  have hx := words_word (ws := [wInt, wNone]) hw (by intro x hx; simp at hx; rcases hx with rfl | rfl <;> decide)
  rw [hy] at hx
  simp only [List.any_cons, List.any_nil, Bool.or_false, wInt_l, wNone_l] at hx
  have hne : ∀ x : List UInt8, x ≠ [] → (y.toList == x) = true → ∃ t r', r = t :: r' := fun x h0 h => by
    cases r with
    | nil =>
      have : y = ⟨#[]⟩ := hy.symm
      rw [this, empty_toList] at h
      exact absurd (beq_iff_eq.1 h).symm h0
    | cons t r' => exact ⟨t, r', rfl⟩
  cases h1 : (y.toList == [105, 110, 116])
  · cases h2 : (y.toList == [110, 111, 110, 101])
    · rw [h1, h2] at hx
      exact .inl ⟨rfl, rfl, hx⟩
    · obtain ⟨t, r', rfl⟩ := hne _ (by simp) h2
      rw [h1, h2] at hx
      exact .inr (.inr ⟨rfl, rfl, by unfold endW; simp [beq_iff_eq.1 h2], t, r', rfl, hx⟩)
  · obtain ⟨t, r', rfl⟩ := hne _ (by simp) h1
    rw [h1] at hx
    exact .inr (.inl ⟨rfl, by unfold endW; simp [beq_iff_eq.1 h1], t, r', rfl, hx⟩)
end Id
set_option maxRecDepth 100000 in
set_option maxHeartbeats 8000000 in
theorem rmethods_any (w0 : World) (A : Option Addr) (l : List Tk.Tok) (n c : Nat) (hrc : Id.RC w0 A l n c) (i : Int) (s : Id.St) (ha : Id.At l i s) (w : World) (hb : Below w0.heap.size w0 w) :
    Calls Tryd.prog 45 #[.slice A n c, .int .i64 i] w (Id.RPost w l 88 5 Id.MthE (Id.within Id.method s)) := by
  obtain ⟨R, HR⟩ : ∃ R, Hid (Id.within Id.method s = R) := ⟨_, Lib.hid rfl⟩
  rw [HR.out]
  have HC := Lib.hid hrc
  have HB := Lib.hid hb
  have hw0 := hb.size
  clear hrc hb
  go_enter Tryd.func45, Tryd.ntmps45
  go_wp2_with fail
  refine (HC.out.step _ HB.out i s ha Id.sLeft (by rw [Id.sLeft_l]; simp)).mono ?_
  rintro e w1 ⟨i1, rfl, h1, hw⟩
  obtain rfl := hw.symm
  obtain ⟨s1, H1⟩ : ∃ T, Hid (Id.want s Id.sLeft = T) := ⟨_, Lib.hid rfl⟩
  rw [H1.out] at h1
  have HA0 := Lib.hid (show Id.RWAt w l Id.method Id.MthE 88 5 R (s1.1.length + 2) i1 (.slice none 0 0) w s1 [] from ⟨h1, fun _ => Nat.le_refl _, by omega, fun _ => by have := h1.left; have := HC.out.le; simp; omega, Below.refl _ _, ERow.nil _ _ _ _ _, fun _ => by rw [← HR.out]; unfold Id.within; rw [H1.out], fun hb => by rw [← HR.out]; unfold Id.within; rw [H1.out]; obtain ⟨r, b⟩ := s1; simp only at hb; subst hb; rfl⟩)
  clear h1 ha
  go_wp2_with fail
  go_loopg [1, 6] (s1.1.length + 2) (fun m vi vl wr => ∃ (j : Int) (s : Id.St) (acc : List Id.Mth) (lv : Value), lv = vl ∧ vi = .int .i64 j ∧ Hid (Id.RWAt w l Id.method Id.MthE 88 5 R m j lv wr s acc))
  case atStart => exact ⟨i1, s1, [], _, rfl, rfl, HA0⟩
  case round =>
    obtain ⟨j, s, acc, lv, rfl, rfl, HA⟩ := hrel
    obtain ⟨f, rfl⟩ : ∃ f, gk = f + 1 := ⟨gk - 1, by have := HA.out.fo; omega⟩
    have hln := HA.out.ln
    have hfu := HA.out.fu
    have hbz := HA.out.bel.size
    obtain ⟨hj1, hj2⟩ := HC.out.bound HA.out.at_
    obtain ⟨r, bad⟩ := s
    simp only at hln hfu
    cases bad
    case true =>
      have hj3 := HA.out.at_.bad rfl
      have hj4 : decide (0 ≤ j) = false := by simp; omega
      have hj5 : ¬ 0 ≤ j := by omega
      have hj6 : decide (j < 0) = true := by simpa using hj3
      have HRb := Lib.hid (HA.out.bad rfl)
      clear hfu hln
      go_wp2_with fail
      go_ret2
      exact ⟨_, _, [], rfl, by rw [HRb.out]; exact HA.out.at_, HA.out.bel, ERow.nil _ _ _ _ _, fun e => by rw [HRb.out] at e; cases e⟩
    obtain ⟨hj3, _⟩ := HA.out.at_.good rfl
    have hj4 : decide (0 ≤ j) = true := by simpa using hj3
    have hj5 : ¬ j < 0 := by omega
    have hj6 : decide (j < 0) = false := by simpa using hj3
    replace hfu := hfu rfl
    replace hln := hln rfl
    have HO := Lib.hid (HA.out.out rfl)
    have HBW := Lib.hid (HB.out.trans (HA.out.bel.mono hw0))
    have hbz0 := HBW.out.size
    have HIR := Lib.hid (Id.is_right (r, false))
    go_wp2_with fail
    refine (HC.out.text _ HBW.out j _ HA.out.at_).mono ?_
    rintro e wq ⟨rfl, hw⟩
    obtain rfl := hw.symm
    obtain ⟨y, HY⟩ : ∃ y, Hid (Id.word (r, false) = y) := ⟨_, Lib.hid rfl⟩
    rw [HY.out]
    by_cases ey : y.toList = [125]
    · have t1 : (y.toList == [125]) = true := beq_iff_eq.2 ey
      have hi : Id.is (r, false) Id.sRight = true := by rw [HIR.out, HY.out]; exact t1
      have HE : Hid (R = (acc, (r.tail, false))) := Lib.hid (by rw [← HO.out]; simp [Id.withinF, hi])
      obtain ⟨t, r', hr'⟩ := Id.is_cons hi
      injection hr' with hr' _
      subst hr'
      clear ey hi
      go_wp2_with fail
      go_ret2
      exact ⟨_, _, acc, rfl, by rw [HE.out]; exact HA.out.at_.next, HA.out.bel, HA.out.row, fun _ => by rw [HE.out]⟩
    have t1 : (y.toList == [125]) = false := beq_eq_false_iff_ne.2 ey
    have HI : Hid (Id.is (r, false) Id.sRight = false) := Lib.hid (by rw [HIR.out, HY.out]; exact t1)
    have HRL := Lib.hid (Id.method_le (r, false))
    have HRG := Lib.hid (@Id.method_good (r, false))
    clear ey
    obtain ⟨⟨n1, s1'⟩, H1w⟩ : ∃ T, Hid (Id.words [Id.wGive, Id.wTake, Id.wNote] (r, false) = T) := ⟨_, Lib.hid rfl⟩
    obtain ⟨⟨n2, s2⟩, H2⟩ : ∃ T, Hid (Id.name s1' = T) := ⟨_, Lib.hid rfl⟩
    obtain ⟨⟨n3, s3⟩, H3⟩ : ∃ T, Hid (Id.arg s2 = T) := ⟨_, Lib.hid rfl⟩
    obtain ⟨s4, H4⟩ : ∃ T, Hid (Id.want s3 Id.sArrow = T) := ⟨_, Lib.hid rfl⟩
    obtain ⟨⟨n4, s5⟩, H5⟩ : ∃ T, Hid (Id.words [Id.wInt, Id.wNone] s4 = T) := ⟨_, Lib.hid rfl⟩
    obtain ⟨ew, HEW⟩ : ∃ T, Hid (Id.endW n4 = T) := ⟨_, Lib.hid rfl⟩
    obtain ⟨⟨tb, s6⟩, H6⟩ : ∃ T, Hid (Id.take s5 Id.wUndo = T) := ⟨_, Lib.hid rfl⟩
    obtain ⟨⟨nu, s7⟩, H7⟩ : ∃ T, Hid ((if tb = true then Id.name s6 else (⟨#[]⟩, s6)) = T) := ⟨_, Lib.hid rfl⟩
    obtain ⟨s8, H8⟩ : ∃ T, Hid (Id.want s7 Id.sSemi = T) := ⟨_, Lib.hid rfl⟩
    have HF : Hid (Id.method (r, false) = (⟨n2, n3, ew, n1, nu⟩, s8)) := Lib.hid (by simp only [Id.method, H1w.out, H2.out, H3.out, H4.out, H5.out, HEW.out, H6.out, H7.out, H8.out])
    replace HRL := Lib.hid (by have := HRL.out; rw [HF.out] at this; exact this)
    replace HRG := Lib.hid (by have := HRG.out; rw [HF.out] at this; exact this)
    have hrl := HRL.out
    simp only at hrl
    replace HRG : Hid (s8.2 = false → s8.1.length < r.length) := HRG
    have HNX := Lib.hid (Id.within_next HO.out HI.out HF.out)
    have HBl := Lib.hid ((Below.refl wr.heap.size wr).alloc (Nat.le_refl _) (.cells #[.string ⟨#[]⟩, .string ⟨#[]⟩, .int .u8 0, .string ⟨#[]⟩, .string ⟨#[]⟩] 88))
    have hec := Id.effects_cases (HA.out.at_.well HC.out.well) HY.out
    rw [H1w.out] at hec
    go_wp2_with fail
    refine (HC.out.text _ (HBW.out.trans (HBl.out.mono hbz0)) j _ HA.out.at_).mono ?_
    rintro e wq ⟨rfl, hw⟩
    obtain rfl := hw.symm
    rw [HY.out]
    clear HBl
    rcases hec with ⟨tg, tt, tn, hwd⟩ | ⟨hty, t, r', hr', hwd⟩
    · injection hwd with e1 e2
      subst e1 e2
      have hs := H2.out
      rw [Id.name_bad rfl] at hs
      injection hs with e1 e2
      subst e1 e2
      have hs := H3.out
      rw [Id.arg_bad rfl] at hs
      injection hs with e1 e2
      subst e1 e2
      have hs := H4.out
      rw [Id.want_bad rfl] at hs
      subst hs
      have hs := H5.out
      rw [Id.words_bad rfl] at hs
      injection hs with e1 e2
      subst e1 e2
      have hs : Id.take ((r, true) : Id.St) Id.wUndo = (false, (r, true)) := rfl
      rw [H6.out] at hs
      injection hs with e1 e2
      subst e1 e2
      have hs := H7.out
      simp only [Bool.false_eq_true, if_false] at hs
      injection hs with e1 e2
      subst e1 e2
      have hs := H8.out
      rw [Id.want_bad rfl] at hs
      subst hs
      have HRb := Lib.hid (HNX.out.2 rfl)
      have HA6 := Lib.hid HA.out.at_.fault
      have HB6 := Lib.hid (HA.out.bel.trans (((Below.refl wr.heap.size wr).alloc (Nat.le_refl _) (.cells #[.string ⟨#[]⟩, .string ⟨#[]⟩, .int .u8 0, .string y, .string ⟨#[]⟩] 88)).mono hbz))
      go_wp2_with fail
      go_ret2
      exact ⟨_, _, [], rfl, by rw [HRb.out]; exact HA6.out, HB6.out, ERow.nil _ _ _ _ _, fun e => by rw [HRb.out] at e; cases e⟩
    injection hwd with e1 e2
    subst e1 e2 hr'
    have hi1 := HA.out.at_.next
    rcases hty with tg | ⟨tg, tt⟩ | ⟨tg, tt, tn⟩
    all_goals
      have HBl := Lib.hid ((Below.refl wr.heap.size wr).alloc (Nat.le_refl _) (.cells #[.string ⟨#[]⟩, .string ⟨#[]⟩, .int .u8 0, .string n1, .string ⟨#[]⟩] 88))
      go_wp2_with fail
      refine (HC.out.name _ (HBW.out.trans (HBl.out.mono hbz0)) (j + 1) _ hi1).mono ?_
      rintro e wq ⟨i2, rfl, hi2, hw⟩
      obtain rfl := hw.symm
      rw [H2.out] at hi2 ⊢
      simp only at hi2 ⊢
      clear HBl
      go_wp2_with fail
      have hq := Bk.new wr 88 #[.string n2, .string ⟨#[]⟩, .int .u8 0, .string n1, .string ⟨#[]⟩]
      have HBl := Lib.hid ((Below.refl wr.heap.size wr).alloc (Nat.le_refl _) (.cells #[.string n2, .string ⟨#[]⟩, .int .u8 0, .string n1, .string ⟨#[]⟩] 88))
      generalize (wr.alloc (.cells #[.string n2, .string ⟨#[]⟩, .int .u8 0, .string n1, .string ⟨#[]⟩] 88)) = W1 at *
      refine (rbracket_any w0 A l n c HC.out i2 _ hi2 _ (HBW.out.trans (HBl.out.mono hbz0))).mono ?_
      rintro e wq ⟨i3, rfl, hi3, hw⟩
      obtain rfl := hw.symm
      rw [H3.out] at hi3 ⊢
      simp only at hi3 ⊢
      obtain ⟨⟨f0, f1, f2, f3, f4⟩, g0, g1, g2, g3, g4⟩ := hq.k5
      go_wp2_with fail
      clear f0 f1 f2 f3 f4 g0 g1 g2 g3 g4
      replace HBl := Lib.hid (HBl.out.setCell (p := ⟨wr.heap.size, 1, none⟩) (Nat.le_refl _) (.string n3))
      replace hq : Bk (W1.setCell ⟨wr.heap.size, 1, none⟩ (.string n3)) wr.heap.size 88 #[.string n2, .string n3, .int .u8 0, .string n1, .string ⟨#[]⟩] := hq.set_ 1 (.string n3)
      generalize (W1.setCell ⟨wr.heap.size, 1, none⟩ (.string n3)) = W2 at *
      refine (HC.out.step _ (HBW.out.trans (HBl.out.mono hbz0)) i3 _ hi3 Id.sArrow (by rw [Id.sArrow_l]; simp)).mono ?_
      rintro e wq ⟨i4, rfl, hi4, hw⟩
      obtain rfl := hw.symm
      rw [H4.out] at hi4
      obtain ⟨hb41, hb42⟩ := HC.out.bound hi4
      obtain ⟨r4, bad4⟩ := s4
      cases bad4
      case true =>
        have hs := H5.out
        rw [Id.words_bad rfl] at hs
        injection hs with e1 e2
        subst e1 e2
        have hs : Id.take ((r4, true) : Id.St) Id.wUndo = (false, (r4, true)) := rfl
        rw [H6.out] at hs
        injection hs with e1 e2
        subst e1 e2
        have hs := H7.out
        simp only [Bool.false_eq_true, if_false] at hs
        injection hs with e1 e2
        subst e1 e2
        have hew0 : Id.endW ⟨#[]⟩ = 0 := Id.endW_short (by decide)
        rw [HEW.out] at hew0
        subst hew0
        have hj7 := hi4.bad rfl
        have hj8 : decide (0 ≤ i4) = false := by simp; omega
        have hj9 : ¬ 0 ≤ i4 := by omega
        have hi7 := hi4
        go_wp2_with fail
        refine (HC.out.step _ (HBW.out.trans (HBl.out.mono hbz0)) i4 _ hi7 Id.sSemi (by rw [Id.sSemi_l]; simp)).mono ?_
        rintro e wq ⟨i8, rfl, hi8, hw⟩
        obtain rfl := hw.symm
        rw [H8.out] at hi8
        obtain ⟨⟨f0, f1, f2, f3, f4⟩, g0, g1, g2, g3, g4⟩ := hq.k5
        have HRO := Lib.hid (ERow.below HA.out.row HBl.out Id.MthE.kp)
        have hsz := HBl.out.size
        go_wp2_with (at_builtin; go_must (refine wpList_append_el rfl _ _ _ rfl w.heap.size 88 _ 5 72 Tryd.underlying56 Id.info_method rfl (by decide) Id.MthE lv acc rfl HRO.out [.string n2, .string n3, .int .u8 0, .string n1, .string ⟨#[]⟩] rfl _ rfl rfl (by simp [Value.oneCell']) (by simp only [maxLen]; omega) (by omega) (by omega) ?_); intro v' w9 hrow9 hb9 ho9; have HROW := Lib.hid hrow9; have HB9 := Lib.hid ((HA.out.bel.trans (HBl.out.mono hbz)).trans hb9); have HO9 := Lib.hid ho9; clear hrow9 hb9 ho9)
        have hnx := Id.within_next HO.out HI.out HF.out
        go_roundg f
        case rel => exact ⟨_, s8, acc ++ [⟨n2, n3, 0, n1, ⟨#[]⟩⟩], v', rfl, rfl, Lib.hid ⟨hi8, fun hb => by have := HRG.out hb; omega, by omega, fun hb => by have := HRG.out hb; simp; omega, HB9.out, HROW.out ⟨n2, n3, 0, n1, ⟨#[]⟩⟩ Id.MthE.kp rfl, hnx.1, hnx.2⟩⟩
        case measure => omega
      have hj7 := (hi4.good rfl).1
      have hj8 : decide (0 ≤ i4) = true := by simpa using hj7
      obtain ⟨y4, HY4⟩ : ∃ y, Hid (Id.word (r4, false) = y) := ⟨_, Lib.hid rfl⟩
      have hrcs := Id.result_cases (hi4.well HC.out.well) HY4.out
      rw [H5.out] at hrcs
      go_wp2_with fail
      refine (HC.out.text _ (HBW.out.trans (HBl.out.mono hbz0)) i4 _ hi4).mono ?_
      rintro e wq ⟨rfl, hw⟩
      obtain rfl := hw.symm
      rw [HY4.out]
      rcases hrcs with ⟨ti, t_o, hwd⟩ | ⟨ti, hew, t4, r4', hr4, hwd⟩ | ⟨ti, t_o, hew, t4, r4', hr4, hwd⟩
      case inl =>
        injection hwd with e1 e2
        subst e1 e2
        have hs : Id.take ((r4, true) : Id.St) Id.wUndo = (false, (r4, true)) := rfl
        rw [H6.out] at hs
        injection hs with e1 e2
        subst e1 e2
        have hs := H7.out
        simp only [Bool.false_eq_true, if_false] at hs
        injection hs with e1 e2
        subst e1 e2
        have hs := H8.out
        rw [Id.want_bad rfl] at hs
        subst hs
        have HRb := Lib.hid (HNX.out.2 rfl)
        have HI6 := Lib.hid hi4.fault
        clear hi4
        go_wp2_with fail
        go_ret2
        exact ⟨_, _, [], rfl, by rw [HRb.out]; exact HI6.out, HA.out.bel.trans (HBl.out.mono hbz), ERow.nil _ _ _ _ _, fun e => by rw [HRb.out] at e; cases e⟩
      all_goals
        injection hwd with e1 e2
        subst e1 e2 hr4
        rw [HEW.out] at hew
        subst hew
        have hi5 := hi4.next
        have hj9 := (hi5.good rfl).1
        have hj10 : decide (0 ≤ i4 + 1) = true := by simpa using hj9
        have HIU := Lib.hid (Id.is_word (s := (r4', false)) (x := Id.wUndo) (by rw [Id.wUndo_l]; simp))
        obtain ⟨y5, HY5⟩ : ∃ y, Hid (Id.word (r4', false) = y) := ⟨_, Lib.hid rfl⟩
      case inr.inl =>
        obtain ⟨⟨f0, f1, f2, f3, f4⟩, g0, g1, g2, g3, g4⟩ := hq.k5
        go_wp2_with fail
        clear f0 f1 f2 f3 f4 g0 g1 g2 g3 g4
        replace HBl := Lib.hid (HBl.out.setCell (p := ⟨wr.heap.size, 2, none⟩) (Nat.le_refl _) (.int .u8 3))
        replace hq : Bk (W2.setCell ⟨wr.heap.size, 2, none⟩ (.int .u8 3)) wr.heap.size 88 #[.string n2, .string n3, .int .u8 3, .string n1, .string ⟨#[]⟩] := hq.set_ 2 (.int .u8 3)
        generalize (W2.setCell ⟨wr.heap.size, 2, none⟩ (.int .u8 3)) = W3 at *
        refine (HC.out.text _ (HBW.out.trans (HBl.out.mono hbz0)) (i4 + 1) _ hi5).mono ?_
        rintro e wq ⟨rfl, hw⟩
        obtain rfl := hw.symm
        rw [HY5.out]
        cases hu : (y5.toList == [117, 110, 100, 111])
        · have hs : Id.take (r4', false) Id.wUndo = (false, (r4', false)) := by unfold Id.take; rw [HIU.out, HY5.out, Id.wUndo_l, hu]; rfl
          rw [H6.out] at hs
          injection hs with e1 e2
          subst e1 e2
          have hs := H7.out
          simp only [Bool.false_eq_true, if_false] at hs
          injection hs with e1 e2
          subst e1 e2
          have hi7 := hi5
          go_wp2_with fail
          refine (HC.out.step _ (HBW.out.trans (HBl.out.mono hbz0)) (i4 + 1) _ hi7 Id.sSemi (by rw [Id.sSemi_l]; simp)).mono ?_
          rintro e wq ⟨i8, rfl, hi8, hw⟩
          obtain rfl := hw.symm
          rw [H8.out] at hi8
          obtain ⟨⟨f0, f1, f2, f3, f4⟩, g0, g1, g2, g3, g4⟩ := hq.k5
          have HRO := Lib.hid (ERow.below HA.out.row HBl.out Id.MthE.kp)
          have hsz := HBl.out.size
          go_wp2_with (at_builtin; go_must (refine wpList_append_el rfl _ _ _ rfl w.heap.size 88 _ 5 72 Tryd.underlying56 Id.info_method rfl (by decide) Id.MthE lv acc rfl HRO.out [.string n2, .string n3, .int .u8 3, .string n1, .string ⟨#[]⟩] rfl _ rfl rfl (by simp [Value.oneCell']) (by simp only [maxLen]; omega) (by omega) (by omega) ?_); intro v' w9 hrow9 hb9 ho9; have HROW := Lib.hid hrow9; have HB9 := Lib.hid ((HA.out.bel.trans (HBl.out.mono hbz)).trans hb9); have HO9 := Lib.hid ho9; clear hrow9 hb9 ho9)
          have hnx := Id.within_next HO.out HI.out HF.out
          go_roundg f
          case rel => exact ⟨_, s8, acc ++ [⟨n2, n3, 3, n1, ⟨#[]⟩⟩], v', rfl, rfl, Lib.hid ⟨hi8, fun hb => by have := HRG.out hb; omega, by omega, fun hb => by have := HRG.out hb; simp; omega, HB9.out, HROW.out ⟨n2, n3, 3, n1, ⟨#[]⟩⟩ Id.MthE.kp rfl, hnx.1, hnx.2⟩⟩
          case measure => omega
        · have hiu : Id.is (r4', false) Id.wUndo = true := by rw [HIU.out, HY5.out, Id.wUndo_l, hu]
          obtain ⟨t5, r5, hr5⟩ := Id.is_cons hiu
          injection hr5 with hr5 _
          subst hr5
          have hs : Id.take (t5 :: r5, false) Id.wUndo = (true, (r5, false)) := by unfold Id.take; rw [hiu]; rfl
          rw [H6.out] at hs
          injection hs with e1 e2
          subst e1 e2
          have hi6 := hi5.next
          replace H7 : Hid (Id.name (r5, false) = (nu, s7)) := Lib.hid (by have := H7.out; simpa using this)
          clear hiu
          go_wp2_with fail
          refine (HC.out.name _ (HBW.out.trans (HBl.out.mono hbz0)) (i4 + 1 + 1) _ hi6).mono ?_
          rintro e wq ⟨i7, rfl, hi7, hw⟩
          obtain rfl := hw.symm
          rw [H7.out] at hi7 ⊢
          simp only at hi7 ⊢
          obtain ⟨⟨f0, f1, f2, f3, f4⟩, g0, g1, g2, g3, g4⟩ := hq.k5
          go_wp2_with fail
          clear f0 f1 f2 f3 f4 g0 g1 g2 g3 g4
          replace HBl := Lib.hid (HBl.out.setCell (p := ⟨wr.heap.size, 4, none⟩) (Nat.le_refl _) (.string nu))
          replace hq : Bk (W3.setCell ⟨wr.heap.size, 4, none⟩ (.string nu)) wr.heap.size 88 #[.string n2, .string n3, .int .u8 3, .string n1, .string nu] := hq.set_ 4 (.string nu)
          generalize (W3.setCell ⟨wr.heap.size, 4, none⟩ (.string nu)) = W4 at *
          refine (HC.out.step _ (HBW.out.trans (HBl.out.mono hbz0)) i7 _ hi7 Id.sSemi (by rw [Id.sSemi_l]; simp)).mono ?_
          rintro e wq ⟨i8, rfl, hi8, hw⟩
          obtain rfl := hw.symm
          rw [H8.out] at hi8
          obtain ⟨⟨f0, f1, f2, f3, f4⟩, g0, g1, g2, g3, g4⟩ := hq.k5
          have HRO := Lib.hid (ERow.below HA.out.row HBl.out Id.MthE.kp)
          have hsz := HBl.out.size
          go_wp2_with (at_builtin; go_must (refine wpList_append_el rfl _ _ _ rfl w.heap.size 88 _ 5 72 Tryd.underlying56 Id.info_method rfl (by decide) Id.MthE lv acc rfl HRO.out [.string n2, .string n3, .int .u8 3, .string n1, .string nu] rfl _ rfl rfl (by simp [Value.oneCell']) (by simp only [maxLen]; omega) (by omega) (by omega) ?_); intro v' w9 hrow9 hb9 ho9; have HROW := Lib.hid hrow9; have HB9 := Lib.hid ((HA.out.bel.trans (HBl.out.mono hbz)).trans hb9); have HO9 := Lib.hid ho9; clear hrow9 hb9 ho9)
          have hnx := Id.within_next HO.out HI.out HF.out
          go_roundg f
          case rel => exact ⟨_, s8, acc ++ [⟨n2, n3, 3, n1, nu⟩], v', rfl, rfl, Lib.hid ⟨hi8, fun hb => by have := HRG.out hb; omega, by omega, fun hb => by have := HRG.out hb; simp; omega, HB9.out, HROW.out ⟨n2, n3, 3, n1, nu⟩ Id.MthE.kp rfl, hnx.1, hnx.2⟩⟩
          case measure => omega
      case inr.inr =>
        obtain ⟨⟨f0, f1, f2, f3, f4⟩, g0, g1, g2, g3, g4⟩ := hq.k5
        go_wp2_with fail
        clear f0 f1 f2 f3 f4 g0 g1 g2 g3 g4
        replace HBl := Lib.hid (HBl.out.setCell (p := ⟨wr.heap.size, 2, none⟩) (Nat.le_refl _) (.int .u8 1))
        replace hq : Bk (W2.setCell ⟨wr.heap.size, 2, none⟩ (.int .u8 1)) wr.heap.size 88 #[.string n2, .string n3, .int .u8 1, .string n1, .string ⟨#[]⟩] := hq.set_ 2 (.int .u8 1)
        generalize (W2.setCell ⟨wr.heap.size, 2, none⟩ (.int .u8 1)) = W3 at *
        refine (HC.out.text _ (HBW.out.trans (HBl.out.mono hbz0)) (i4 + 1) _ hi5).mono ?_
        rintro e wq ⟨rfl, hw⟩
        obtain rfl := hw.symm
        rw [HY5.out]
        cases hu : (y5.toList == [117, 110, 100, 111])
        · have hs : Id.take (r4', false) Id.wUndo = (false, (r4', false)) := by unfold Id.take; rw [HIU.out, HY5.out, Id.wUndo_l, hu]; rfl
          rw [H6.out] at hs
          injection hs with e1 e2
          subst e1 e2
          have hs := H7.out
          simp only [Bool.false_eq_true, if_false] at hs
          injection hs with e1 e2
          subst e1 e2
          have hi7 := hi5
          go_wp2_with fail
          refine (HC.out.step _ (HBW.out.trans (HBl.out.mono hbz0)) (i4 + 1) _ hi7 Id.sSemi (by rw [Id.sSemi_l]; simp)).mono ?_
          rintro e wq ⟨i8, rfl, hi8, hw⟩
          obtain rfl := hw.symm
          rw [H8.out] at hi8
          obtain ⟨⟨f0, f1, f2, f3, f4⟩, g0, g1, g2, g3, g4⟩ := hq.k5
          have HRO := Lib.hid (ERow.below HA.out.row HBl.out Id.MthE.kp)
          have hsz := HBl.out.size
          go_wp2_with (at_builtin; go_must (refine wpList_append_el rfl _ _ _ rfl w.heap.size 88 _ 5 72 Tryd.underlying56 Id.info_method rfl (by decide) Id.MthE lv acc rfl HRO.out [.string n2, .string n3, .int .u8 1, .string n1, .string ⟨#[]⟩] rfl _ rfl rfl (by simp [Value.oneCell']) (by simp only [maxLen]; omega) (by omega) (by omega) ?_); intro v' w9 hrow9 hb9 ho9; have HROW := Lib.hid hrow9; have HB9 := Lib.hid ((HA.out.bel.trans (HBl.out.mono hbz)).trans hb9); have HO9 := Lib.hid ho9; clear hrow9 hb9 ho9)
          have hnx := Id.within_next HO.out HI.out HF.out
          go_roundg f
          case rel => exact ⟨_, s8, acc ++ [⟨n2, n3, 1, n1, ⟨#[]⟩⟩], v', rfl, rfl, Lib.hid ⟨hi8, fun hb => by have := HRG.out hb; omega, by omega, fun hb => by have := HRG.out hb; simp; omega, HB9.out, HROW.out ⟨n2, n3, 1, n1, ⟨#[]⟩⟩ Id.MthE.kp rfl, hnx.1, hnx.2⟩⟩
          case measure => omega
        · have hiu : Id.is (r4', false) Id.wUndo = true := by rw [HIU.out, HY5.out, Id.wUndo_l, hu]
          obtain ⟨t5, r5, hr5⟩ := Id.is_cons hiu
          injection hr5 with hr5 _
          subst hr5
          have hs : Id.take (t5 :: r5, false) Id.wUndo = (true, (r5, false)) := by unfold Id.take; rw [hiu]; rfl
          rw [H6.out] at hs
          injection hs with e1 e2
          subst e1 e2
          have hi6 := hi5.next
          replace H7 : Hid (Id.name (r5, false) = (nu, s7)) := Lib.hid (by have := H7.out; simpa using this)
          clear hiu
          go_wp2_with fail
          refine (HC.out.name _ (HBW.out.trans (HBl.out.mono hbz0)) (i4 + 1 + 1) _ hi6).mono ?_
          rintro e wq ⟨i7, rfl, hi7, hw⟩
          obtain rfl := hw.symm
          rw [H7.out] at hi7 ⊢
          simp only at hi7 ⊢
          obtain ⟨⟨f0, f1, f2, f3, f4⟩, g0, g1, g2, g3, g4⟩ := hq.k5
          go_wp2_with fail
          clear f0 f1 f2 f3 f4 g0 g1 g2 g3 g4
          replace HBl := Lib.hid (HBl.out.setCell (p := ⟨wr.heap.size, 4, none⟩) (Nat.le_refl _) (.string nu))
          replace hq : Bk (W3.setCell ⟨wr.heap.size, 4, none⟩ (.string nu)) wr.heap.size 88 #[.string n2, .string n3, .int .u8 1, .string n1, .string nu] := hq.set_ 4 (.string nu)
          generalize (W3.setCell ⟨wr.heap.size, 4, none⟩ (.string nu)) = W4 at *
          refine (HC.out.step _ (HBW.out.trans (HBl.out.mono hbz0)) i7 _ hi7 Id.sSemi (by rw [Id.sSemi_l]; simp)).mono ?_
          rintro e wq ⟨i8, rfl, hi8, hw⟩
          obtain rfl := hw.symm
          rw [H8.out] at hi8
          obtain ⟨⟨f0, f1, f2, f3, f4⟩, g0, g1, g2, g3, g4⟩ := hq.k5
          have HRO := Lib.hid (ERow.below HA.out.row HBl.out Id.MthE.kp)
          have hsz := HBl.out.size
          go_wp2_with (at_builtin; go_must (refine wpList_append_el rfl _ _ _ rfl w.heap.size 88 _ 5 72 Tryd.underlying56 Id.info_method rfl (by decide) Id.MthE lv acc rfl HRO.out [.string n2, .string n3, .int .u8 1, .string n1, .string nu] rfl _ rfl rfl (by simp [Value.oneCell']) (by simp only [maxLen]; omega) (by omega) (by omega) ?_); intro v' w9 hrow9 hb9 ho9; have HROW := Lib.hid hrow9; have HB9 := Lib.hid ((HA.out.bel.trans (HBl.out.mono hbz)).trans hb9); have HO9 := Lib.hid ho9; clear hrow9 hb9 ho9)
          have hnx := Id.within_next HO.out HI.out HF.out
          go_roundg f
          case rel => exact ⟨_, s8, acc ++ [⟨n2, n3, 1, n1, nu⟩], v', rfl, rfl, Lib.hid ⟨hi8, fun hb => by have := HRG.out hb; omega, by omega, fun hb => by have := HRG.out hb; simp; omega, HB9.out, HROW.out ⟨n2, n3, 1, n1, nu⟩ Id.MthE.kp rfl, hnx.1, hnx.2⟩⟩
          case measure => omega
end Go.Proofs.YtoomlpalkinipaaDoor
