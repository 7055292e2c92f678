/- The document's side: place, Parse, Type. -/
import Derived.Test.YtoomlpalkinipaaDoorIdlV
import Derived.Test.YtoomlpalkinipaaDoorTokAllR
set_option linter.unusedVariables false
set_option linter.unusedSimpArgs false
namespace Go.Proofs.YtoomlpalkinipaaDoor
open Go.RowKit
namespace Id
theorem well_snoc {l : List Tk.Tok} {t : Tk.Tok} (h : WellT l) (ht : t.kind = 1 ∨ t.kind = 2 ∨ (t.kind = 3 ∧ t.text.size ≤ 2)) : WellT (l ++ [t]) := fun x hx => by
  rcases List.mem_append.1 hx with h1 | h1
  · exact h x h1
  · simp at h1; subst h1; exact ht
theorem well_one {d : Nat} {s : ByteArray} {k : Nat} (h : (Tk.oneAt d s k).2 = 0) : (Tk.oneAt d s k).1.kind = 1 ∨ (Tk.oneAt d s k).1.kind = 2 ∨ ((Tk.oneAt d s k).1.kind = 3 ∧ (Tk.oneAt d s k).1.text.size ≤ 2) := by
  unfold Tk.oneAt at h ⊢
  split
  · exact .inl rfl
  · split
    · dsimp only
      split
      · exact .inr (.inl rfl)
      · split
        · exact .inr (.inl rfl)
        · exact .inr (.inl rfl)
    · split
      · exact .inr (.inr ⟨rfl, by simp; omega⟩)
      · split
        · exact .inr (.inr ⟨rfl, (show Tk.arrow.size ≤ 2 by decide)⟩)
        · rename_i n1 n2 n3 n4
          rw [if_neg n1, if_neg n2, if_neg n3, if_neg n4] at h
          cases h
theorem well_scan (d : Nat) (s : ByteArray) : ∀ (f k : Nat) (acc : List Tk.Tok), WellT acc → WellT (Tk.scan d s f k acc).1
  | 0, k, acc, h => by unfold Tk.scan; exact h
  | f + 1, k, acc, h => by
    unfold Tk.scan
    split
    · split
      · intro t ht; cases ht
      · rename_i he
        exact well_scan d s f _ _ (well_snoc h (well_one (by simpa using he)))
    · exact h
theorem well_all (s : ByteArray) : WellT (Tk.all s).1 := by
  unfold Tk.all
  split
  · intro t ht; cases ht
  · exact well_scan _ _ _ _ _ (fun t ht => by cases ht)
theorem schemaF_end : ∀ (f : Nat) (s : St) (x : Sch), (s.2 = false → s.1.length + 2 ≤ f) → (schemaF f s x).2.2 = false → (schemaF f s x).2.1 = []
  | 0, s, x, hf, h => by
    unfold schemaF at h
    have := hf h
    omega
  | f + 1, s, x, hf, h => by
    obtain ⟨l, bad⟩ := s
    cases bad
    case true => rw [schemaF_bad _ _ rfl] at h; cases h
    cases l with
    | nil => unfold schemaF; simp
    | cons t r =>
      have hfu := hf rfl
      simp only [List.length_cons] at hfu
      have hwc := words_cases decls (t :: r, false) rfl
      generalize hw : words decls (t :: r, false) = wd at *
      obtain ⟨y, s4⟩ := wd
      rw [schemaF_step hw] at h ⊢
      simp only [List.length_cons] at hwc
      have key : ∀ (s6 : St) (x' : Sch), s6.1.length ≤ s4.1.length → s4.2 = false → (schemaF f s6 x').2.2 = false → (schemaF f s6 x').2.1 = [] := fun s6 x' h6 h4 hh => schemaF_end f s6 x' (fun _ => by
        rcases hwc with ⟨_, e⟩ | ⟨e, _⟩
        · omega
        · rw [h4] at e; cases e) hh
      rcases hwc with ⟨h4, he⟩ | ⟨h4, he⟩
      · split at h
        · rename_i e; rw [if_pos e]; exact key _ _ (record_le _ _) h4 h
        · rename_i e1; rw [if_neg e1]
          split at h
          · rename_i e; rw [if_pos e]; exact key _ _ (record_le _ _) h4 h
          · rename_i e2; rw [if_neg e2]
            split at h
            · rename_i e; rw [if_pos e]; exact key _ _ (service_le _) h4 h
            · rename_i e3; rw [if_neg e3]
              split at h
              · rename_i e; rw [if_pos e]; exact key _ _ (saga_le _) h4 h
              · rename_i e4; rw [if_neg e4]; exact key _ _ (Nat.le_refl _) h4 h
      · subst he
        have hn : ∀ L : List UInt8, L ≠ [] → ¬ (⟨#[]⟩ : ByteArray).toList = L := fun L hL e => hL (by rw [empty_toList] at e; exact e.symm)
        rw [if_neg (hn _ (by simp)), if_neg (hn _ (by simp)), if_neg (hn _ (by simp)), if_neg (hn _ (by simp)), schemaF_bad _ _ h4] at h
        rw [h4] at h
        cases h
theorem schema_end (s : St) (h : (schema s).2.2 = false) : (schema s).2.1 = [] := schemaF_end _ _ _ (fun _ => Nat.le_refl _) h
/-- Where a fault is. -/
def spot (n : Nat) (r : List Tk.Tok) : Nat := match r with
  | [] => n
  | t :: _ => t.at_
theorem whole_bad {α : Type} {zero : α} {read : St → α × St} {s : ByteArray} {l : List Tk.Tok} {at_ : Nat} {x : α} {s3 : St} (ht : Tk.all s = (l, at_, 0)) (hr : read (l, false) = (x, s3)) (hb : s3.2 = true ∨ s3.1 ≠ []) : whole zero read s = (zero, spot s.size s3.1, 120) := by
  unfold whole
  rw [ht]
  simp only [hr]
  obtain ⟨r, b⟩ := s3
  cases r with
  | nil =>
    rcases hb with hb | hb
    · simp only at hb; subst hb; rfl
    · exact absurd rfl hb
  | cons t r => rfl
theorem whole_good {α : Type} {zero : α} {read : St → α × St} {s : ByteArray} {l : List Tk.Tok} {at_ : Nat} {x : α} (ht : Tk.all s = (l, at_, 0)) (hr : read (l, false) = (x, ([], false))) : whole zero read s = (x, 0, 0) := by
  unfold whole
  rw [ht]
  simp only [hr]
  rfl
end Id
set_option maxRecDepth 100000 in
set_option maxHeartbeats 4000000 in
theorem rplace_any (s : ByteArray) (hs : s.size ≤ 9223372036854775807) (A : Option Addr) (l : List Tk.Tok) (c : Nat) (hl : l.length ≤ 1000000) (k : Nat) (hk : k ≤ l.length) (w : World) (hr : Tk.ReadT w A l) :
    Calls Tryd.prog 21 #[.string s, .slice A l.length c, .int .i64 k] w fun e w' => e = .returned (.int .i64 (Id.spot s.size (l.drop k))) ∧ w' = w := by
  rcases Nat.lt_or_ge k l.length with hlt | hge
  · obtain ⟨g, off, rfl, hcs⟩ := hr (by omega)
    obtain ⟨t0, t1, t2, t3⟩ := hcs k hlt
    have HE : Hid (Id.spot s.size (l.drop k) = l[k].at_) := Lib.hid (by rw [List.drop_eq_getElem_cons hlt]; rfl)
    obtain ⟨n, hn⟩ : ∃ n, n = l.length := ⟨_, rfl⟩
    generalize l[k] = t at *
    rw [← hn] at hlt ⊢
    have i1 : (0 : Int) ≤ (k : Int) := by omega
    have i2 : (k : Int) < (n : Int) := by omega
    have i3 : decide (n ≤ k) = false := by simp; omega
    have i4 : ¬ n ≤ k := by omega
    clear hcs hr hn hl hk
    go_enter Tryd.func21, Tryd.ntmps21
    go_wp2_with fail
    go_ret
    exact ⟨(by first | (rw [HE.out]; done) | (rw [HE.out]; rfl)), rfl⟩
  · obtain rfl : k = l.length := by omega
    have HE : Hid (Id.spot s.size (l.drop l.length) = s.size) := Lib.hid (by rw [List.drop_length]; rfl)
    generalize hn : l.length = n at *
    have hn2 := Lib.hid hn
    clear hn hr hl hk hge
    go_enter Tryd.func21, Tryd.ntmps21
    go_wp2_with fail
    go_ret
    exact ⟨(by first | (rw [HE.out]; done) | (rw [HE.out]; rfl)), rfl⟩
set_option maxRecDepth 100000 in
set_option maxHeartbeats 8000000 in
theorem rparse_any (s : ByteArray) (hs : s.size ≤ 9223372036854775807) (w : World) :
    Calls Tryd.prog 9 #[.string s] w fun e w' => ∃ v, e = .returned (.tuple #[v, .int .i64 (Id.parse s).2.1, .int .i64 (Id.parse s).2.2]) ∧ Below w.heap.size w w' ∧ Id.SchV w' (some w.heap.size) v (Id.parse s).1 := by
  obtain ⟨R, HR⟩ : ∃ R, Hid (Id.parse s = R) := ⟨_, Lib.hid rfl⟩
  rw [HR.out]
  obtain ⟨⟨pl, pat, pe⟩, HT⟩ : ∃ T, Hid (Tk.all s = T) := ⟨_, Lib.hid rfl⟩
  have hpl := Tk.all_len s
  have HWL := Lib.hid (Id.well_all s)
  rw [HT.out] at hpl HWL
  simp only at hpl HWL
  have hbl := (Below.refl w.heap.size w).alloc (Nat.le_refl _) (.cells #[.string ⟨#[]⟩, .slice none 0 0, .slice none 0 0, .slice none 0 0] 26)
  have hq := Bk.new w 26 #[.string ⟨#[]⟩, .slice none 0 0, .slice none 0 0, .slice none 0 0]
  have hz1 : (w.alloc (.cells #[.string ⟨#[]⟩, .slice none 0 0, .slice none 0 0, .slice none 0 0] 26)).heap.size = w.heap.size + 1 := by simp
  go_enter Tryd.func9, Tryd.ntmps9
  go_wp2_with fail
  generalize (w.alloc (.cells #[.string ⟨#[]⟩, .slice none 0 0, .slice none 0 0, .slice none 0 0] 26)) = w1 at *
  refine (rall_any s (by unfold maxLen; omega) _).mono ?_
  rintro e w2 ⟨v2, rfl, hb2, hown⟩
  rw [HT.out] at hown ⊢
  simp only at hown ⊢
  have hq2 := hq.below hb2 hq.lt
  have hB2 : Below w.heap.size w w2 := hbl.trans (hb2.mono (by omega))
  have hsz2 := hb2.size
  by_cases hpe : pe = 0
  case neg =>
    have HE : Hid (R = (Id.Sch.zero, pat, pe)) := Lib.hid (by rw [← HR.out]; unfold Id.parse Id.whole; rw [HT.out]; simp [hpe])
    have tpe : ((pe : Int) != 0) = true := by rw [bne_iff_ne]; omega
    have tpe2 : decide (pe = 0) = false := by simpa using hpe
    clear hpe hq hbl hb2
    obtain ⟨⟨q0, q1, q2, q3⟩, q4, q5, q6, q7⟩ := hq2.k4
    go_wp2_with fail
    clear q0 q1 q2 q3 q4 q5 q6 q7
    have hqf : Bk _ w.heap.size 26 #[.string ⟨#[]⟩, .slice none 0 0, .slice none 0 0, .slice none 0 0] := ((((hq2.set_ 0 (.string ⟨#[]⟩)).set_ 1 (.slice none 0 0)).set_ 2 (.slice none 0 0)).set_ 3 (.slice none 0 0))
    have hBf := ((((hB2.setCell (p := ⟨w.heap.size, 0, none⟩) (Nat.le_refl _) (.string ⟨#[]⟩)).setCell (p := ⟨w.heap.size, 1, none⟩) (Nat.le_refl _) (.slice none 0 0)).setCell (p := ⟨w.heap.size, 2, none⟩) (Nat.le_refl _) (.slice none 0 0)).setCell (p := ⟨w.heap.size, 3, none⟩) (Nat.le_refl _) (.slice none 0 0))
    generalize ((((w2.setCell ⟨w.heap.size, 0, none⟩ (.string ⟨#[]⟩)).setCell ⟨w.heap.size, 1, none⟩ (.slice none 0 0)).setCell ⟨w.heap.size, 2, none⟩ (.slice none 0 0)).setCell ⟨w.heap.size, 3, none⟩ (.slice none 0 0)) = wf at *
    obtain ⟨⟨y0, y1, y2, y3⟩, _⟩ := hqf.k4
    refine bodyPost_ret (v := .tuple #[.agg #[.string ⟨#[]⟩, .slice none 0 0, .slice none 0 0, .slice none 0 0], .int .i64 pat, .int .i64 pe]) ?_ rfl ⟨_, (by first | (rw [HE.out]; done) | (rw [HE.out]; rfl)), hBf, by rw [HE.out]; exact Id.SchV.zero _ _⟩
    rw [res_ctt rfl]
    go_simp
    try rfl
  subst hpe
  obtain ⟨A, c, rfl, hrd, _⟩ := Tk.row_reads hown
  have HRC : Hid (Id.RC w2 A pl pl.length c) := Lib.hid ⟨rfl, by omega, HWL.out, hrd⟩
  obtain ⟨⟨x, s3⟩, H3⟩ : ∃ T, Hid (Id.schema (pl, false) = T) := ⟨_, Lib.hid rfl⟩
  have HEND := Lib.hid (Id.schema_end (pl, false))
  have HBAD := Lib.hid (fun hb => Id.whole_bad (zero := Id.Sch.zero) (read := Id.schema) HT.out H3.out hb)
  obtain ⟨n, hn⟩ : ∃ n, n = pl.length := ⟨_, rfl⟩
  rw [← hn] at HRC ⊢
  have HN := Lib.hid hn
  have HQ2 := Lib.hid hq2
  have HB2 := Lib.hid hB2
  have HRD := Lib.hid hrd
  have hqb := hq2.lt
  clear hown hrd hq hq2 hb2 hB2 hbl hn hsz2
  go_wp2_with fail
  refine (rschema_any A pl n c w2 HRC.out).mono ?_
  rintro e w3 ⟨v3, i3, x3, rfl, hat, hb3, hsv, hx⟩
  rw [H3.out] at hat hx
  simp only at hat hx
  have HB3 := Lib.hid (HB2.out.trans (hb3.mono (by omega)))
  have HQ3 := Lib.hid (HQ2.out.below hb3 hqb)
  have HRD3 := Lib.hid (HRD.out.below hb3)
  have hz3 := hb3.size
  obtain ⟨A5, n5, c5, A6, n6, c6, A7, n7, c7, rfl, r1, r2, r3⟩ := hsv
  have HSV : Hid (Id.SchV w3 (some w.heap.size) (.agg #[.string x3.name, .slice A5 n5 c5, .slice A6 n6 c6, .slice A7 n7 c7]) x3) := Lib.hid (Id.SchV.weak (Id.wk_le (by omega)) ⟨_, _, _, _, _, _, _, _, _, rfl, r1, r2, r3⟩)
  have HX := Lib.hid hx
  generalize x3.name = xn at *
  have HRB := Lib.hid ((HQ3.out.alloc (.cells #[.string xn, .slice A5 n5 c5, .slice A6 n6 c6, .slice A7 n7 c7] 26)))
  have HBB := Lib.hid (HB3.out.alloc (by omega) (.cells #[.string xn, .slice A5 n5 c5, .slice A6 n6 c6, .slice A7 n7 c7] 26))
  have HSB := Lib.hid (Id.SchV.below ((Below.refl w3.heap.size w3).alloc (Nat.le_refl _) (.cells #[.string xn, .slice A5 n5 c5, .slice A6 n6 c6, .slice A7 n7 c7] 26)) HSV.out)
  have HRDB := Lib.hid (HRD3.out.below ((Below.refl w3.heap.size w3).alloc (Nat.le_refl _) (.cells #[.string xn, .slice A5 n5 c5, .slice A6 n6 c6, .slice A7 n7 c7] 26)))
  have hsb := Bk.new w3 26 #[.string xn, .slice A5 n5 c5, .slice A6 n6 c6, .slice A7 n7 c7]
  have hne : ¬ w3.heap.size = w.heap.size := by omega
  obtain ⟨k, hk, hkd, hki⟩ := hat
  obtain ⟨r3', bad⟩ := s3
  simp only at hkd hki hx HX
  cases bad
  case true =>
    have HE : Hid (R = (Id.Sch.zero, Id.spot s.size (pl.drop k), 120)) := Lib.hid (by rw [← HR.out, ← hkd]; exact HBAD.out (.inl rfl))
    simp only [if_true] at hki
    have hi1 : decide (i3 < 0) = true := by simp; omega
    have hi2 : i3 < 0 := by omega
    have hi3 : -1 - i3 = (k : Int) := by omega
    have hi4 : (-1000001 : Int) ≤ i3 := by omega
    have HI3 := Lib.hid hi3
    have HPC := Lib.hid (rplace_any s hs A pl c (by omega) k hk _ HRDB.out)
    rw [← HN.out] at HPC
    clear hi3 hki hx r1 r2 r3 hkd
    go_wp2_with fail
    rw [HI3.out]
    generalize (w3.alloc (.cells #[.string xn, .slice A5 n5 c5, .slice A6 n6 c6, .slice A7 n7 c7] 26)) = w4 at *
    refine (HPC.out).mono ?_
    rintro e wq ⟨rfl, hw⟩
    obtain rfl := hw.symm
    have hq2 := HRB.out
    have HB4 := HBB
    obtain ⟨⟨q0, q1, q2, q3⟩, q4, q5, q6, q7⟩ := hq2.k4
    go_wp2_with fail
    clear q0 q1 q2 q3 q4 q5 q6 q7
    have hqf : Bk _ w.heap.size 26 #[.string ⟨#[]⟩, .slice none 0 0, .slice none 0 0, .slice none 0 0] := ((((hq2.set_ 0 (.string ⟨#[]⟩)).set_ 1 (.slice none 0 0)).set_ 2 (.slice none 0 0)).set_ 3 (.slice none 0 0))
    have hBf := ((((HB4.out.setCell (p := ⟨w.heap.size, 0, none⟩) (Nat.le_refl _) (.string ⟨#[]⟩)).setCell (p := ⟨w.heap.size, 1, none⟩) (Nat.le_refl _) (.slice none 0 0)).setCell (p := ⟨w.heap.size, 2, none⟩) (Nat.le_refl _) (.slice none 0 0)).setCell (p := ⟨w.heap.size, 3, none⟩) (Nat.le_refl _) (.slice none 0 0))
    generalize ((((w4.setCell ⟨w.heap.size, 0, none⟩ (.string ⟨#[]⟩)).setCell ⟨w.heap.size, 1, none⟩ (.slice none 0 0)).setCell ⟨w.heap.size, 2, none⟩ (.slice none 0 0)).setCell ⟨w.heap.size, 3, none⟩ (.slice none 0 0)) = wf at *
    obtain ⟨⟨y0, y1, y2, y3⟩, _⟩ := hqf.k4
    refine bodyPost_ret (v := .tuple #[.agg #[.string ⟨#[]⟩, .slice none 0 0, .slice none 0 0, .slice none 0 0], .int .i64 (Id.spot s.size (pl.drop k)), .int .i64 120]) ?_ rfl ⟨_, (by first | (rw [HE.out]; done) | (rw [HE.out]; rfl)), hBf, by rw [HE.out]; exact Id.SchV.zero _ _⟩
    rw [res_ctt rfl]
    go_simp
    try rfl
  case false =>
    have hrn : r3' = [] := by have := HEND.out; rw [H3.out] at this; exact this rfl
    subst hrn
    have HE : Hid (R = (x3, 0, 0)) := Lib.hid (by rw [← HR.out, HX.out rfl]; exact Id.whole_good HT.out H3.out)
    simp only [Bool.false_eq_true, if_false] at hki
    have hi1 : decide (i3 < 0) = false := by simp; omega
    have hi2 : ¬ i3 < 0 := by omega
    have hi5 : 0 ≤ i3 := by omega
    clear hki hx r1 r2 r3 hkd
    obtain ⟨⟨z0, z1, z2, z3⟩, _⟩ := hsb.k4
    have hq2 := HRB.out
    obtain ⟨⟨q0, q1, q2, q3⟩, q4, q5, q6, q7⟩ := hq2.k4
    go_wp2_with fail
    clear q0 q1 q2 q3 q4 q5 q6 q7 z0 z1 z2 z3
    generalize (w3.alloc (.cells #[.string xn, .slice A5 n5 c5, .slice A6 n6 c6, .slice A7 n7 c7] 26)) = w4 at *
    have hqf : Bk _ w.heap.size 26 #[.string xn, .slice A5 n5 c5, .slice A6 n6 c6, .slice A7 n7 c7] := ((((hq2.set_ 0 (.string xn)).set_ 1 (.slice A5 n5 c5)).set_ 2 (.slice A6 n6 c6)).set_ 3 (.slice A7 n7 c7))
    have hBf := ((((HBB.out.setCell (p := ⟨w.heap.size, 0, none⟩) (Nat.le_refl _) (.string xn)).setCell (p := ⟨w.heap.size, 1, none⟩) (Nat.le_refl _) (.slice A5 n5 c5)).setCell (p := ⟨w.heap.size, 2, none⟩) (Nat.le_refl _) (.slice A6 n6 c6)).setCell (p := ⟨w.heap.size, 3, none⟩) (Nat.le_refl _) (.slice A7 n7 c7))
    have hsf := HSB.out.only ((((Only.set hq2 0 (.string xn)).trans (Only.set (hq2.set_ 0 (.string xn)) 1 (.slice A5 n5 c5))).trans (Only.set ((hq2.set_ 0 (.string xn)).set_ 1 (.slice A5 n5 c5)) 2 (.slice A6 n6 c6))).trans (Only.set (((hq2.set_ 0 (.string xn)).set_ 1 (.slice A5 n5 c5)).set_ 2 (.slice A6 n6 c6)) 3 (.slice A7 n7 c7))) (by decide)
    generalize ((((w4.setCell ⟨w.heap.size, 0, none⟩ (.string xn)).setCell ⟨w.heap.size, 1, none⟩ (.slice A5 n5 c5)).setCell ⟨w.heap.size, 2, none⟩ (.slice A6 n6 c6)).setCell ⟨w.heap.size, 3, none⟩ (.slice A7 n7 c7)) = wf at *
    obtain ⟨⟨y0, y1, y2, y3⟩, _⟩ := hqf.k4
    refine bodyPost_ret (v := .tuple #[.agg #[.string xn, .slice A5 n5 c5, .slice A6 n6 c6, .slice A7 n7 c7], .int .i64 0, .int .i64 0]) ?_ rfl ⟨_, (by first | (rw [HE.out]; done) | (rw [HE.out]; rfl)), hBf, by rw [HE.out]; exact hsf⟩
    rw [res_ctt rfl]
    go_simp
    try rfl
set_option maxRecDepth 100000 in
set_option maxHeartbeats 8000000 in
theorem rtype_any (s : ByteArray) (hs : s.size ≤ 9223372036854775807) (w : World) :
    Calls Tryd.prog 15 #[.string s] w fun e w' => ∃ v, e = .returned (.tuple #[v, .int .i64 (Id.type s).2.1, .int .i64 (Id.type s).2.2]) ∧ Below w.heap.size w w' ∧ Id.SortsR w' (some w.heap.size) v (Id.type s).1 := by
  obtain ⟨R, HR⟩ : ∃ R, Hid (Id.type s = R) := ⟨_, Lib.hid rfl⟩
  rw [HR.out]
  obtain ⟨⟨pl, pat, pe⟩, HT⟩ : ∃ T, Hid (Tk.all s = T) := ⟨_, Lib.hid rfl⟩
  have hpl := Tk.all_len s
  have HWL := Lib.hid (Id.well_all s)
  rw [HT.out] at hpl HWL
  simp only at hpl HWL
  go_enter Tryd.func15, Tryd.ntmps15
  go_wp2_with fail
  refine (rall_any s (by unfold maxLen; omega) _).mono ?_
  rintro e w2 ⟨v2, rfl, hb2, hown⟩
  rw [HT.out] at hown ⊢
  simp only at hown ⊢
  have hsz2 := hb2.size
  by_cases hpe : pe = 0
  case neg =>
    have HE : Hid (R = ([], pat, pe)) := Lib.hid (by rw [← HR.out]; unfold Id.type Id.whole; rw [HT.out]; simp [hpe])
    have tpe : ((pe : Int) != 0) = true := by rw [bne_iff_ne]; omega
    have tpe2 : decide (pe = 0) = false := by simpa using hpe
    clear hpe
    go_wp2_with fail
    go_ret3
    exact ⟨_, (by first | (rw [HE.out]; done) | (rw [HE.out]; rfl)), hb2, by rw [HE.out]; exact ERow.nil _ _ _ _ _⟩
  subst hpe
  obtain ⟨A, c, rfl, hrd, _⟩ := Tk.row_reads hown
  have HRC : Hid (Id.RC w2 A pl pl.length c) := Lib.hid ⟨rfl, by omega, HWL.out, hrd⟩
  obtain ⟨⟨x, s3⟩, H3⟩ : ∃ T, Hid (Id.sorts (pl, false) = T) := ⟨_, Lib.hid rfl⟩
  have HBAD := Lib.hid (fun hb => Id.whole_bad (zero := ([] : List Id.Srt)) (read := Id.sorts) HT.out H3.out hb)
  obtain ⟨n, hn⟩ : ∃ n, n = pl.length := ⟨_, rfl⟩
  rw [← hn] at HRC ⊢
  have HN := Lib.hid hn
  have HB2 := Lib.hid hb2
  have HRD := Lib.hid hrd
  clear hown hrd hb2 hn
  go_wp2_with fail
  refine (HRC.out.sorts w2 (Below.refl _ _) 0 (pl, false) (Id.At.zero pl)).mono ?_
  rintro e w3 ⟨v3, i3, rfl, hat, hb3, hsv⟩
  rw [H3.out] at hat hsv
  simp only at hat hsv
  have HB3 := Lib.hid (HB2.out.trans (hb3.mono hsz2))
  have HRD3 := Lib.hid (HRD.out.below hb3)
  obtain ⟨A5, n5, c5, rfl⟩ := ERow.is hsv
  have HSV : Hid (Id.SortsR w3 (some w.heap.size) (.slice A5 n5 c5) x) := Lib.hid (ERow.mono hsv (fun _ _ hr => hr.weak (Id.wk_le hsz2)) (fun _ _ h => h))
  obtain ⟨k, hk, hkd, hki⟩ := hat
  obtain ⟨r3', bad⟩ := s3
  simp only at hkd hki
  clear hb3 hsv
  cases bad
  case true =>
    have HE : Hid (R = ([], Id.spot s.size (pl.drop k), 120)) := Lib.hid (by rw [← HR.out, ← hkd]; exact HBAD.out (.inl rfl))
    simp only [if_true] at hki
    have hi1 : decide (i3 < 0) = true := by simp; omega
    have hi2 : i3 < 0 := by omega
    have hi3 : -1 - i3 = (k : Int) := by omega
    have hi4 : (-1000001 : Int) ≤ i3 := by omega
    have HI3 := Lib.hid hi3
    have HPC := Lib.hid (rplace_any s hs A pl c (by omega) k hk _ HRD3.out)
    rw [← HN.out] at HPC
    clear hi3 hki hkd
    go_wp2_with fail
    rw [HI3.out]
    refine (HPC.out).mono ?_
    rintro e wq ⟨rfl, hw⟩
    obtain rfl := hw.symm
    go_wp2_with fail
    go_ret3
    exact ⟨_, (by first | (rw [HE.out]; done) | (rw [HE.out]; rfl)), HB3.out, by rw [HE.out]; exact ERow.nil _ _ _ _ _⟩
  case false =>
    simp only [Bool.false_eq_true, if_false] at hki
    subst hki
    rcases Nat.lt_or_ge k pl.length with hlt | hge
    · have HE : Hid (R = ([], pl[k].at_, 120)) := Lib.hid (by rw [← HR.out]; have h0 := HBAD.out (.inr (by show r3' ≠ []; rw [hkd]; intro e; have := congrArg List.length e; simp at this; omega)); have h1 : Id.spot s.size r3' = pl[k].at_ := (by rw [hkd, List.drop_eq_getElem_cons hlt]; rfl); rw [← h1]; exact h0)
      obtain ⟨g, off, rfl, hcs⟩ := HRD3.out (by omega)
      obtain ⟨t0, t1, t2, t3⟩ := hcs k hlt
      generalize pl[k] = t at *
      have i1 : (0 : Int) ≤ (k : Int) := by omega
      have i2 : (k : Int) < (n : Int) := by rw [HN.out]; omega
      have i3 : decide (k < n) = true := by rw [HN.out]; simpa using hlt
      have i4 : k < n := by rw [HN.out]; exact hlt
      clear hcs hkd
      go_wp2_with fail
      go_quiet (fail)
      go_wp2_with fail
      go_ret3
      exact ⟨_, (by first | (rw [HE.out]; done) | (rw [HE.out]; rfl)), below_drewN HB3.out _, by rw [HE.out]; exact ERow.nil _ _ _ _ _⟩
    · have hr0 : r3' = [] := by rw [hkd, List.drop_of_length_le hge]
      subst hr0
      have HE : Hid (R = (x, 0, 0)) := Lib.hid (by rw [← HR.out]; exact Id.whole_good HT.out H3.out)
      have i2 : ¬ (k : Int) < (n : Int) := by rw [HN.out]; omega
      have i3 : decide (k < n) = false := by rw [HN.out]; simp; omega
      have i4 : ¬ k < n := by rw [HN.out]; omega
      clear hkd
      go_wp2_with fail
      go_ret3
      exact ⟨_, (by first | (rw [HE.out]; done) | (rw [HE.out]; rfl)), HB3.out, by rw [HE.out]; exact HSV.out⟩
end Go.Proofs.YtoomlpalkinipaaDoor
