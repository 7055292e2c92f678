/- The document's side: Sorts (printed by gen_rsorts.py). -/
import Derived.Test.YtoomlpalkinipaaDoorIdlS
set_option linter.unusedVariables false
set_option linter.unusedSimpArgs false
namespace Go.Proofs.YtoomlpalkinipaaDoor
open Go.RowKit
namespace Id
/-- A token as they come out of a text. -/
def WellT (l : List Tk.Tok) : Prop := ∀ t ∈ l, t.kind = 1 ∨ t.kind = 2 ∨ (t.kind = 3 ∧ t.text.size ≤ 2)
theorem endW_short {s : ByteArray} (h : s.size ≤ 2) : endW s = 0 := by
  have hl : s.toList.length ≤ 2 := by rw [ByteArray.toList_eq]; simpa using h
  have hne : ∀ x : List UInt8, 3 ≤ x.length → ¬ s.toList = x := fun x hx e => by rw [e] at hl; omega
  unfold endW
  rw [if_neg (hne _ (by decide)), if_neg (hne _ (by decide)), if_neg (hne _ (by decide)), if_neg (hne _ (by decide))]
theorem ends_word {s : St} (hb : s.2 = false) (hw : ∀ t r, s.1 = t :: r → t.kind = 1 ∨ t.kind = 2 ∨ (t.kind = 3 ∧ t.text.size ≤ 2)) : ends s = !(endW (word s) == 0) ∧ (ends s = true → head s = word s ∧ ∃ t r, s.1 = t :: r) := by
  obtain ⟨l, bad⟩ := s
  simp only at hb hw
  subst hb
  have e0 : endW ⟨#[]⟩ = 0 := endW_short (by decide)
  cases l with
  | nil => unfold ends word; simp [e0]
  | cons t r =>
    rcases hw t r rfl with h | h | ⟨h, h2⟩
    · unfold ends word head; simp [h]
    · unfold ends word head; simp [h, e0]
    · have := endW_short h2
      unfold ends word head; simp [h, this]
theorem At.well {l : List Tk.Tok} {i : Int} {s : St} (h : At l i s) (hw : WellT l) : ∀ t r, s.1 = t :: r → t.kind = 1 ∨ t.kind = 2 ∨ (t.kind = 3 ∧ t.text.size ≤ 2) := by
  intro t r e
  obtain ⟨k, hk, e2, _⟩ := h
  exact hw t (List.mem_of_mem_drop (by rw [← e2, e]; simp))
structure RSAt (w : World) (l : List Tk.Tok) (R : List Srt × St) (n : Nat) (i : Int) (v : Value) (wr : World) (r : List Tk.Tok) (acc : List Srt) : Prop where
  at_ : At l i (r, false)
  fu : r.length + 1 ≤ n
  ln : acc.length + r.length ≤ 1000000
  bel : Below w.heap.size w wr
  row : SortsR wr (some w.heap.size) v acc
  out : sortsF n (r, false) acc = R
theorem wList_l : wList.toList = [108, 105, 115, 116] := by simp [wList, ByteArray.toList_mk]
theorem wOpt_l : wOpt.toList = [111, 112, 116] := by simp [wOpt, ByteArray.toList_mk]
theorem word_ne {r : List Tk.Tok} (h : ¬ (word (r, false)).toList = []) : ∃ t r', r = t :: r' := by
  cases r with
  | nil => exact absurd empty_toList h
  | cons t r' => exact ⟨t, r', rfl⟩
end Id
set_option maxRecDepth 100000 in
set_option maxHeartbeats 8000000 in
theorem rsorts_any (A : Option Addr) (l : List Tk.Tok) (c : Nat) (hl : l.length ≤ 1000000) (hwl : Id.WellT l) (i : Int) (s : Id.St) (ha : Id.At l i s) (w : World) (hr : Tk.ReadT w A l) :
    Calls Tryd.prog 28 #[.slice A l.length c, .int .i64 i] w fun e w' => ∃ v i', e = .returned (.tuple #[v, .int .i64 i']) ∧ Id.At l i' (Id.sorts s).2 ∧ Below w.heap.size w w' ∧ Id.SortsR w' (some w.heap.size) v (Id.sorts s).1 := by
  obtain ⟨R, HR⟩ : ∃ R, Hid (Id.sorts s = R) := ⟨_, Lib.hid rfl⟩
  rw [HR.out]
  have HRD := Lib.hid hr
  have HL := Lib.hid hl
  obtain ⟨r0, bad⟩ := s
  cases bad
  case' true =>
    have HE : Hid (R = ([], (r0, true))) := Lib.hid (by rw [← HR.out]; rfl)
    have hi := ha.bad rfl
    have hi3 : decide (i < 0) = true := by simpa using hi
    have HA := Lib.hid ha
    clear ha hr hl
    generalize hn : l.length = n at *
    have HN := Lib.hid hn
    clear hn
  case true =>
    go_enter Tryd.func28, Tryd.ntmps28
    go_wp2_with fail
    go_ret2
    exact ⟨_, _, rfl, by rw [HE.out]; exact HA.out, Below.refl _ _, by rw [HE.out]; exact ERow.nil _ _ _ _ _⟩
  have hg0 := ha.good rfl
  have hi3 : decide (i < 0) = false := by simp; omega
  have hi4 : ¬ i < 0 := by omega
  have hi5 : (0 : Int) ≤ i := hg0.1
  have hlr : r0.length ≤ l.length := by
    obtain ⟨k, hk, e, _⟩ := ha
    simp only at e
    rw [e]; simp
  have HA0 := Lib.hid (show Id.RSAt w l R (r0.length + 1) i (.slice none 0 0) w r0 [] from ⟨ha, Nat.le_refl _, by simp; omega, Below.refl _ _, ERow.nil _ _ _ _ _, HR.out⟩)
  obtain ⟨n, hn⟩ : ∃ n, n = l.length := ⟨_, rfl⟩
  rw [← hn]
  have HN := Lib.hid hn
  clear ha hr hl hg0 hn hlr
  go_enter Tryd.func28, Tryd.ntmps28
  go_wp2_with fail
  go_loopg [1, 6] (r0.length + 1) (fun m vi vl wr => ∃ (j : Int) (r : List Tk.Tok) (acc : List Id.Srt) (lv : Value), lv = vl ∧ vi = .int .i64 j ∧ Hid (Id.RSAt w l R m j lv wr r acc))
  case atStart => exact ⟨i, r0, [], _, rfl, rfl, HA0⟩
  case round =>
    obtain ⟨j, r, acc, lv, rfl, rfl, HA⟩ := hrel
    obtain ⟨f, rfl⟩ : ∃ f, gk = f + 1 := ⟨gk - 1, by have := HA.out.fu; omega⟩
    have hfu := HA.out.fu
    have hln := HA.out.ln
    have hbz := HA.out.bel.size
    obtain ⟨hj1, hj2⟩ := HA.out.at_.good rfl
    have hll := HL.out
    have hj3 : j ≤ 1000000 := by omega
    have HRW := Lib.hid (HRD.out.below HA.out.bel)
    have HC : Hid (∀ W, Below wr.heap.size wr W → Calls Tryd.prog 43 #[.slice A n c, .int .i64 j] W fun e w' => e = .returned (.string (Id.word (r, false))) ∧ w' = W) := Lib.hid (fun W hW => by rw [HN.out]; exact rtext_any' A l c HL.out j (r, false) HA.out.at_ W (HRW.out.below hW))
    have HIL : Hid (Id.is (r, false) Id.wList = ((Id.word (r, false)).toList == [108, 105, 115, 116])) := Lib.hid (by rw [Id.is_word (by rw [Id.wList_l]; simp), Id.wList_l])
    have HIO : Hid (Id.is (r, false) Id.wOpt = ((Id.word (r, false)).toList == [111, 112, 116])) := Lib.hid (by rw [Id.is_word (by rw [Id.wOpt_l]; simp), Id.wOpt_l])
    have HEN := Lib.hid (Id.ends_word (s := (r, false)) rfl (HA.out.at_.well hwl))
    have HWN := Lib.hid (@Id.word_ne r)
    generalize hy : Id.word (r, false) = y at *
    clear hy hj2 hll
    by_cases e_list : y.toList = [108, 105, 115, 116]
    · have t1 : (y.toList == [108, 105, 115, 116]) = true := beq_iff_eq.2 e_list
      obtain ⟨t, r', hr'⟩ := HWN.out (by rw [e_list]; simp)
      subst hr'
      have HE : Hid (Id.sortsF f (r', false) (acc ++ [⟨5, ⟨#[]⟩⟩]) = R) := Lib.hid (by rw [← HA.out.out]; simp [Id.sortsF, HIL.out, t1])
      simp only [List.length_cons] at hfu hln
      clear e_list
      go_wp2_with fail
      refine (HC.out _ (Below.refl _ _)).mono ?_
      rintro e w' ⟨rfl, hw⟩
      obtain rfl := hw.symm
      go_wp2_with fail
      refine (HC.out _ (Below.refl _ _)).mono ?_
      rintro e w' ⟨rfl, hw⟩
      obtain rfl := hw.symm
      go_wp2_with (at_builtin; go_must (refine wpList_append_el rfl _ _ _ rfl w.heap.size 78 _ 2 24 Tryd.underlying40 Id.info_sort rfl (by decide) Id.SortE lv acc rfl (HA.out.row) [.int .u8 5, .string ⟨#[]⟩] rfl _ rfl (by simp) (by simp [Value.oneCell']) (by simp only [maxLen]; omega) (by omega) (by omega) ?_); intro v' w4 hrow2 hb2 ho2; have HROW := Lib.hid (hrow2 ⟨5, ⟨#[]⟩⟩ (fun _ _ h => h) rfl); have HB2 := Lib.hid (HA.out.bel.trans hb2); clear hrow2 hb2 ho2)
      go_roundg f
      case rel => exact ⟨j + 1, r', _, v', rfl, rfl, Lib.hid ⟨HA.out.at_.next, by omega, by simp; omega, HB2.out, HROW.out, HE.out⟩⟩
      case measure => omega
    by_cases e_opt : y.toList = [111, 112, 116]
    · have t1 : (y.toList == [111, 112, 116]) = true := beq_iff_eq.2 e_opt
      have t0 : (y.toList == [108, 105, 115, 116]) = false := beq_eq_false_iff_ne.2 e_list
      obtain ⟨t, r', hr'⟩ := HWN.out (by rw [e_opt]; simp)
      subst hr'
      have HE : Hid (Id.sortsF f (r', false) (acc ++ [⟨6, ⟨#[]⟩⟩]) = R) := Lib.hid (by rw [← HA.out.out]; simp [Id.sortsF, HIL.out, t0, HIO.out, t1])
      simp only [List.length_cons] at hfu hln
      clear e_opt e_list
      go_wp2_with fail
      refine (HC.out _ (Below.refl _ _)).mono ?_
      rintro e w' ⟨rfl, hw⟩
      obtain rfl := hw.symm
      go_wp2_with fail
      refine (HC.out _ (Below.refl _ _)).mono ?_
      rintro e w' ⟨rfl, hw⟩
      obtain rfl := hw.symm
      go_wp2_with fail
      refine (HC.out _ (Below.refl _ _)).mono ?_
      rintro e w' ⟨rfl, hw⟩
      obtain rfl := hw.symm
      go_wp2_with (at_builtin; go_must (refine wpList_append_el rfl _ _ _ rfl w.heap.size 78 _ 2 24 Tryd.underlying40 Id.info_sort rfl (by decide) Id.SortE lv acc rfl (HA.out.row) [.int .u8 6, .string ⟨#[]⟩] rfl _ rfl (by simp) (by simp [Value.oneCell']) (by simp only [maxLen]; omega) (by omega) (by omega) ?_); intro v' w4 hrow2 hb2 ho2; have HROW := Lib.hid (hrow2 ⟨6, ⟨#[]⟩⟩ (fun _ _ h => h) rfl); have HB2 := Lib.hid (HA.out.bel.trans hb2); clear hrow2 hb2 ho2)
      go_roundg f
      case rel => exact ⟨j + 1, r', _, v', rfl, rfl, Lib.hid ⟨HA.out.at_.next, by omega, by simp; omega, HB2.out, HROW.out, HE.out⟩⟩
      case measure => omega
    have l1 : (y.toList == [108, 105, 115, 116]) = false := beq_eq_false_iff_ne.2 e_list
    have l2 : (y.toList == [111, 112, 116]) = false := beq_eq_false_iff_ne.2 e_opt
    have HX : Hid (R = if Id.ends (r, false) then (acc ++ [⟨Id.endW (Id.head (r, false)), ⟨#[]⟩⟩], ((r, false) : Id.St).1.tail, false) else (acc ++ [⟨7, (Id.name (r, false)).1⟩], (Id.name (r, false)).2)) := Lib.hid (by rw [← HA.out.out]; simp [Id.sortsF, HIL.out, l1, HIO.out, l2])
    clear e_list e_opt
    go_wp2_with fail
    refine (HC.out _ (Below.refl _ _)).mono ?_
    rintro e w' ⟨rfl, hw⟩
    obtain rfl := hw.symm
    go_wp2_with fail
    refine (HC.out _ (Below.refl _ _)).mono ?_
    rintro e w' ⟨rfl, hw⟩
    obtain rfl := hw.symm
    go_wp2_with fail
    refine (HC.out _ (Below.refl _ _)).mono ?_
    rintro e w' ⟨rfl, hw⟩
    obtain rfl := hw.symm
    by_cases f_none : y.toList = [110, 111, 110, 101]
    · have u1 : (y.toList == [110, 111, 110, 101]) = true := beq_iff_eq.2 f_none
      obtain ⟨t, r', hr'⟩ := HWN.out (by rw [f_none]; simp)
      subst hr'
      have hew : Id.endW y = 1 := by unfold Id.endW; simp [f_none]
      have HE : Hid ((acc ++ [⟨1, ⟨#[]⟩⟩], (r', false)) = R) := Lib.hid (by
        have h1 := HEN.out.1
        rw [hew] at h1
        have h2 := (HEN.out.2 h1).1
        rw [HX.out, h1, h2, hew]
        rfl)
      simp only [List.length_cons] at hfu hln
      clear hew HX f_none
      go_wp2_with (at_builtin; go_must (refine wpList_append_el rfl _ _ _ rfl w.heap.size 78 _ 2 24 Tryd.underlying40 Id.info_sort rfl (by decide) Id.SortE lv acc rfl (HA.out.row) [.int .u8 1, .string ⟨#[]⟩] rfl _ rfl (by simp) (by simp [Value.oneCell']) (by simp only [maxLen]; omega) (by omega) (by omega) ?_); intro v' w4 hrow2 hb2 ho2; have HROW := Lib.hid (hrow2 ⟨1, ⟨#[]⟩⟩ (fun _ _ h => h) rfl); have HB2 := Lib.hid (HA.out.bel.trans hb2); clear hrow2 hb2 ho2)
      go_ret2
      exact ⟨_, _, rfl, by rw [← HE.out]; exact HA.out.at_.next, HB2.out, by rw [← HE.out]; exact HROW.out⟩
    by_cases f_bool : y.toList = [98, 111, 111, 108]
    · have u1 : (y.toList == [98, 111, 111, 108]) = true := beq_iff_eq.2 f_bool
      have t0 : (y.toList == [110, 111, 110, 101]) = false := beq_eq_false_iff_ne.2 f_none
      obtain ⟨t, r', hr'⟩ := HWN.out (by rw [f_bool]; simp)
      subst hr'
      have hew : Id.endW y = 2 := by unfold Id.endW; simp [f_bool]
      have HE : Hid ((acc ++ [⟨2, ⟨#[]⟩⟩], (r', false)) = R) := Lib.hid (by
        have h1 := HEN.out.1
        rw [hew] at h1
        have h2 := (HEN.out.2 h1).1
        rw [HX.out, h1, h2, hew]
        rfl)
      simp only [List.length_cons] at hfu hln
      clear hew HX f_bool f_none
      go_wp2_with (at_builtin; go_must (refine wpList_append_el rfl _ _ _ rfl w.heap.size 78 _ 2 24 Tryd.underlying40 Id.info_sort rfl (by decide) Id.SortE lv acc rfl (HA.out.row) [.int .u8 2, .string ⟨#[]⟩] rfl _ rfl (by simp) (by simp [Value.oneCell']) (by simp only [maxLen]; omega) (by omega) (by omega) ?_); intro v' w4 hrow2 hb2 ho2; have HROW := Lib.hid (hrow2 ⟨2, ⟨#[]⟩⟩ (fun _ _ h => h) rfl); have HB2 := Lib.hid (HA.out.bel.trans hb2); clear hrow2 hb2 ho2)
      go_ret2
      exact ⟨_, _, rfl, by rw [← HE.out]; exact HA.out.at_.next, HB2.out, by rw [← HE.out]; exact HROW.out⟩
    by_cases f_int : y.toList = [105, 110, 116]
    · have u1 : (y.toList == [105, 110, 116]) = true := beq_iff_eq.2 f_int
      have t0 : (y.toList == [110, 111, 110, 101]) = false := beq_eq_false_iff_ne.2 f_none
      have t1 : (y.toList == [98, 111, 111, 108]) = false := beq_eq_false_iff_ne.2 f_bool
      obtain ⟨t, r', hr'⟩ := HWN.out (by rw [f_int]; simp)
      subst hr'
      have hew : Id.endW y = 3 := by unfold Id.endW; simp [f_int]
      have HE : Hid ((acc ++ [⟨3, ⟨#[]⟩⟩], (r', false)) = R) := Lib.hid (by
        have h1 := HEN.out.1
        rw [hew] at h1
        have h2 := (HEN.out.2 h1).1
        rw [HX.out, h1, h2, hew]
        rfl)
      simp only [List.length_cons] at hfu hln
      clear hew HX f_int f_none f_bool
      go_wp2_with (at_builtin; go_must (refine wpList_append_el rfl _ _ _ rfl w.heap.size 78 _ 2 24 Tryd.underlying40 Id.info_sort rfl (by decide) Id.SortE lv acc rfl (HA.out.row) [.int .u8 3, .string ⟨#[]⟩] rfl _ rfl (by simp) (by simp [Value.oneCell']) (by simp only [maxLen]; omega) (by omega) (by omega) ?_); intro v' w4 hrow2 hb2 ho2; have HROW := Lib.hid (hrow2 ⟨3, ⟨#[]⟩⟩ (fun _ _ h => h) rfl); have HB2 := Lib.hid (HA.out.bel.trans hb2); clear hrow2 hb2 ho2)
      go_ret2
      exact ⟨_, _, rfl, by rw [← HE.out]; exact HA.out.at_.next, HB2.out, by rw [← HE.out]; exact HROW.out⟩
    by_cases f_text : y.toList = [116, 101, 120, 116]
    · have u1 : (y.toList == [116, 101, 120, 116]) = true := beq_iff_eq.2 f_text
      have t0 : (y.toList == [110, 111, 110, 101]) = false := beq_eq_false_iff_ne.2 f_none
      have t1 : (y.toList == [98, 111, 111, 108]) = false := beq_eq_false_iff_ne.2 f_bool
      have t2 : (y.toList == [105, 110, 116]) = false := beq_eq_false_iff_ne.2 f_int
      obtain ⟨t, r', hr'⟩ := HWN.out (by rw [f_text]; simp)
      subst hr'
      have hew : Id.endW y = 4 := by unfold Id.endW; simp [f_text]
      have HE : Hid ((acc ++ [⟨4, ⟨#[]⟩⟩], (r', false)) = R) := Lib.hid (by
        have h1 := HEN.out.1
        rw [hew] at h1
        have h2 := (HEN.out.2 h1).1
        rw [HX.out, h1, h2, hew]
        rfl)
      simp only [List.length_cons] at hfu hln
      clear hew HX f_text f_none f_bool f_int
      go_wp2_with (at_builtin; go_must (refine wpList_append_el rfl _ _ _ rfl w.heap.size 78 _ 2 24 Tryd.underlying40 Id.info_sort rfl (by decide) Id.SortE lv acc rfl (HA.out.row) [.int .u8 4, .string ⟨#[]⟩] rfl _ rfl (by simp) (by simp [Value.oneCell']) (by simp only [maxLen]; omega) (by omega) (by omega) ?_); intro v' w4 hrow2 hb2 ho2; have HROW := Lib.hid (hrow2 ⟨4, ⟨#[]⟩⟩ (fun _ _ h => h) rfl); have HB2 := Lib.hid (HA.out.bel.trans hb2); clear hrow2 hb2 ho2)
      go_ret2
      exact ⟨_, _, rfl, by rw [← HE.out]; exact HA.out.at_.next, HB2.out, by rw [← HE.out]; exact HROW.out⟩
    have t0 : (y.toList == [110, 111, 110, 101]) = false := beq_eq_false_iff_ne.2 f_none
    have t1 : (y.toList == [98, 111, 111, 108]) = false := beq_eq_false_iff_ne.2 f_bool
    have t2 : (y.toList == [105, 110, 116]) = false := beq_eq_false_iff_ne.2 f_int
    have t3 : (y.toList == [116, 101, 120, 116]) = false := beq_eq_false_iff_ne.2 f_text
    have hew : Id.endW y = 0 := by unfold Id.endW; simp [f_none, f_bool, f_int, f_text]
    obtain ⟨⟨nm, s3⟩, HN3⟩ : ∃ N, Hid (Id.name (r, false) = N) := ⟨_, Lib.hid rfl⟩
    have HE : Hid ((acc ++ [⟨7, nm⟩], s3) = R) := Lib.hid (by
      have h1 := HEN.out.1
      rw [hew] at h1
      rw [HX.out, h1, HN3.out]
      rfl)
    have HNC : Hid (Calls Tryd.prog 42 #[.slice A n c, .int .i64 j] wr fun e w2 => ∃ i', e = .returned (.tuple #[.string nm, .int .i64 i']) ∧ Id.At l i' s3 ∧ w2 = wr) := Lib.hid (by
      have := rname12_any A l c HL.out j (r, false) HA.out.at_ wr HRW.out
      rw [HN3.out, ← HN.out] at this
      exact this)
    clear hew HX f_none f_bool f_int f_text
    go_wp2_with fail
    refine (HNC.out).mono ?_
    rintro e w5 ⟨i5, rfl, hat, hw⟩
    obtain rfl := hw.symm
    have HAT := Lib.hid hat
    clear hat
    go_wp2_with (at_builtin; go_must (refine wpList_append_el rfl _ _ _ rfl w.heap.size 78 _ 2 24 Tryd.underlying40 Id.info_sort rfl (by decide) Id.SortE lv acc rfl (HA.out.row) [.int .u8 7, .string nm] rfl _ rfl (by simp) (by simp [Value.oneCell']) (by simp only [maxLen]; omega) (by omega) (by omega) ?_); intro v' w4 hrow2 hb2 ho2; have HROW := Lib.hid (hrow2 ⟨7, nm⟩ (fun _ _ h => h) rfl); have HB2 := Lib.hid (HA.out.bel.trans hb2); clear hrow2 hb2 ho2)
    go_ret2
    exact ⟨_, _, rfl, by rw [← HE.out]; exact HAT.out, HB2.out, by rw [← HE.out]; exact HROW.out⟩
end Go.Proofs.YtoomlpalkinipaaDoor
