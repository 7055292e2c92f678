/- IdlBlanks: the walk. -/
import Derived.Test.YtoomlpalkinipaaDoorIdlLaw3
import Derived.Test.YtoomlpalkinipaaDoorIdlZ
import Derived.Test.YtoomlpalkinipaaDoorIdlWk
set_option linter.unusedVariables false
set_option linter.unusedSimpArgs false
namespace Go.Proofs.YtoomlpalkinipaaDoor
open Go.RowKit
theorem Tk.number_drop {l : List Tk.Tok} {a k : Nat} (h : k < l.length) : Tk.number (l.drop k) a = if l[k].at_ = a then 0 else Tk.number (l.drop (k + 1)) a + 1 := by
  rw [List.drop_eq_getElem_cons h]
  rfl
set_option maxRecDepth 100000 in
set_option maxHeartbeats 4000000 in
theorem number_any (A : Option Addr) (ls : List Tk.Tok) (c : Nat) (a n : Nat) (hn : n = ls.length) (hl : n ≤ 1000000) (w : World) (hr : Tk.ReadT w A ls) :
    Calls Tryd.prog 13 #[.slice A n c, .int .i64 a] w fun e w' => e = .returned (.int .i64 (Tk.number ls a)) ∧ w' = w := by
  obtain ⟨R, HR⟩ : ∃ R, Hid (Tk.number ls a = R) := ⟨_, Lib.hid rfl⟩
  rw [HR.out]
  have Hn := Lib.hid hn
  have Hr := Lib.hid hr
  clear hn hr
  go_enter Tryd.func13, Tryd.ntmps13
  go_wp2_with fail
  go_loop [5] (fun i => ∃ k : Nat, k ≤ n ∧ i = .int .i64 k ∧ Hid (R = k + Tk.number (ls.drop k) a)) (fun i => n - (intOf i).toNat)
  case atStart => exact ⟨0, by omega, rfl, Lib.hid (by rw [← HR.out]; simp)⟩
  case round =>
    obtain ⟨k, hk, rfl, HK⟩ := hrel
    by_cases hlt : k < n
    · have hkl : k < ls.length := by rw [← Hn.out]; exact hlt
      obtain ⟨ag, ao, rfl, hca⟩ := Hr.out (by omega)
      obtain ⟨a0, a1, a2, a3⟩ := hca k hkl
      have HD := HK.out
      rw [Tk.number_drop hkl] at HD
      have hki : (k : Int) < (n : Int) := by omega
      have i0 : (0 : Int) ≤ (k : Int) := by omega
      have HD2 := Lib.hid HD
      clear hca a0 a1 a2 HD HK
      generalize ls[k].at_ = p at *
      by_cases hp : p = a
      · have HE : Hid (R = k) := Lib.hid (by rw [HD2.out, if_pos hp]; rfl)
        have t1 : ((p : Int) == (a : Int)) = true := by rw [beq_iff_eq]; omega
        clear hp
        go_wp2_with fail
        go_ret
        exact ⟨(by first | (rw [HE.out]; done) | (rw [HE.out]; rfl)), rfl⟩
      · have HE : Hid (R = k + 1 + Tk.number (ls.drop (k + 1)) a) := Lib.hid (by rw [HD2.out, if_neg hp]; omega)
        have t1 : ((p : Int) == (a : Int)) = false := by rw [beq_eq_false_iff_ne]; omega
        have t2 : ¬ ((p : Int) = (a : Int)) := by omega
        clear hp
        go_wp2_with fail
        go_round
        case rel => exact ⟨k + 1, by omega, by go_num, HE⟩
        case measure => simp [intOf]; omega
    · obtain rfl : k = n := by omega
      have HE : Hid (R = k) := Lib.hid (by rw [HK.out, List.drop_of_length_le (by rw [← Hn.out]; omega)]; rfl)
      clear hlt
      go_wp2_with fail
      go_ret
      exact ⟨(by first | (rw [HE.out]; done) | (rw [HE.out]; rfl)), rfl⟩
set_option maxRecDepth 100000 in
set_option maxHeartbeats 8000000 in
theorem idlBlanks_walk (s : ByteArray) (hs : s.size ≤ maxLen) (w : World) (hk : Tk.KW w) :
    Calls Tryd.prog 4 #[.string s] w fun e w' => e = .returned (.bool true) ∧ Below w.heap.size w w' := by
  unfold maxLen at hs
  go_enter Tryd.func4, Tryd.ntmps4
  go_upto_if 21 with (fail)
  go_cut [0] (fun x wx => ∃ a' : ByteArray, a'.size ≤ 5000 ∧ x = .string a' ∧ wx = w)
  case first =>
    by_cases h1 : 5000 < s.size
    · go_wp2_with fail
      go_meet
      case rel => exact ⟨_, by simp; omega, rfl, rfl⟩
    · go_wp2_with fail
      go_meet
      case rel => exact ⟨_, by omega, rfl, rfl⟩
  case rest =>
    obtain ⟨a, ha, rfl, rfl⟩ := hcut
    clear hs
    obtain ⟨⟨l, pa, ea⟩, HT⟩ : ∃ q, Hid (Tk.all a = q) := ⟨_, Lib.hid rfl⟩
    go_wp2_with fail
    refine (all_any a (by unfold maxLen; omega) _).mono ?_
    rintro e w1 ⟨v1, rfl, hb1, hown⟩
    rw [HT.out] at hown ⊢
    simp only at hown ⊢
    obtain ⟨A, c, rfl, hr, hln⟩ := Tk.row_reads hown
    have HB1 := Lib.hid hb1
    have HK1 := Lib.hid (hk.below hb1)
    have HR1 := Lib.hid hr
    clear hown hr hb1
    by_cases hea : ea = 0
    case neg =>
      have HPE : Hid (Id.parse a = (Id.Sch.zero, pa, ea)) := Lib.hid (by unfold Id.parse Id.whole; rw [HT.out]; simp [hea])
      have t1 : ((ea : Int) != 0) = true := by rw [bne_iff_ne]; omega
      have t2 : ((ea : Int) == (ea : Int)) = true := by simp
      clear hea
      generalize l.length = n at *
      go_wp2_with fail
      refine (pparse_any a (by omega) _ HK1.out).mono ?_
      rintro e w2 ⟨v2, rfl, hb2, hs2⟩
      rw [HPE.out] at hs2 ⊢
      simp only at hs2 ⊢
      have HS2 := Lib.hid hs2
      obtain ⟨B1, m1, d1, B2, m2, d2, B3, m3, d3, rfl, -⟩ := hs2
      have HB2 := Lib.hid ((bl_join HB1.out hb2).alloc (by have := HB1.out.size; have := hb2.size; omega) (.cells #[.string Id.Sch.zero.name, .slice B1 m1 d1, .slice B2 m2 d2, .slice B3 m3 d3] 26))
      have HK2 := Lib.hid (hk.below HB2.out)
      have HS2b := Lib.hid (Id.SchV.below ((Below.refl w2.heap.size w2).alloc (Nat.le_refl _) (.cells #[.string Id.Sch.zero.name, .slice B1 m1 d1, .slice B2 m2 d2, .slice B3 m3 d3] 26)) HS2.out)
      clear hb2
      generalize Id.Sch.zero.name = zn at *
      go_wp2_with fail
      refine (same12_any Id.Sch.zero Id.Sch.zero _ _ _ (Id.SchV.weak (Id.wk_none _) HS2b.out) (Id.SchV.weak (Id.wk_none _) (Id.SchV.zero _ 0))).mono ?_
      rintro e w3 ⟨rfl, hb3⟩
      rw [Id.schEq_refl]
      have HB3 := Lib.hid (bl_join HB2.out hb3)
      have HK3 := Lib.hid (hk.below HB3.out)
      clear hb3
      go_wp2_with fail
      refine (wakes12_any _ HK3.out).mono ?_
      rintro e w9 ⟨rfl, hb9⟩
      have HF := Lib.hid (bl_join HB3.out hb9)
      clear hb9
      go_wp2_with fail
      go_ret
      exact ⟨rfl, HF.out⟩
    subst hea
    obtain ⟨⟨xa, at_, ep⟩, HP⟩ : ∃ q, Hid (Id.parse a = q) := ⟨_, Lib.hid rfl⟩
    have hap : Tk.Apart a 0 l := by have := Tk.all_apart (s := a) (by rw [HT.out]); rwa [HT.out] at this
    obtain ⟨hsum, hll⟩ := hap.sum (Nat.zero_le _)
    have hJ : ∀ m, (Tk.apartL (l.take m)).length ≤ 60000 := fun m => by
      rw [Tk.apartL_len]
      have h1 : ((l.take m).map fun t => t.text.size).sum ≤ (l.map fun t => t.text.size).sum := by
        conv => rhs; rw [← List.take_append_drop m l]
        rw [List.map_append, List.sum_append]
        omega
      have h2 : (l.take m).length ≤ l.length := by simp; omega
      omega
    have hx : ∀ (m : Nat) (h : m < l.length), l[m].text.size ≤ 5000 := fun m h => by
      have h1 := hJ (m + 1)
      have h3 : ∀ (q : List Tk.Tok) (j : Nat) (h : j < q.length), q[j].text.size ≤ (q.map fun t => t.text.size).sum := by
        intro q
        induction q with
        | nil => intro j h; simp at h
        | cons u q ih =>
          intro j h
          rw [List.map_cons, List.sum_cons]
          cases j with
          | zero => simp
          | succ j => have := ih j (by simpa using h); simp only [List.getElem_cons_succ]; omega
      have := h3 l m h
      omega
    have HJ := Lib.hid hJ
    have HX := Lib.hid hx
    clear hap hsum hJ hx
    obtain ⟨n, hn⟩ : ∃ n, n = l.length := ⟨_, rfl⟩
    rw [← hn] at hln hll ⊢
    have HN := Lib.hid hn
    clear hn
    go_wp2_with fail
    go_loop [9, 10] (fun x i => ∃ m : Nat, m ≤ n ∧ i = .int .i64 m ∧ x = .string ⟨(Tk.apartL (l.take m)).toArray⟩) (fun _ i => n - (intOf i).toNat)
    case atStart => exact ⟨0, by omega, rfl, rfl⟩
    case round =>
      obtain ⟨m, hm, rfl, rfl⟩ := hrel
      by_cases hml : m < n
      · have hkl : m < l.length := by rw [← HN.out]; exact hml
        obtain ⟨ag, ao, rfl, hca⟩ := HR1.out (by omega)
        obtain ⟨a0, a1, a2, a3⟩ := hca m hkl
        have hmi : (m : Int) < (n : Int) := by omega
        have i0 : (0 : Int) ≤ (m : Int) := by omega
        have HJT : Hid (Tk.apartL (l.take (m + 1)) = Tk.apartL (l.take m) ++ (l[m].text.data.toList ++ Tk.sep)) := Lib.hid (by rw [List.take_succ_eq_append_getElem hkl, Tk.apartL_snoc])
        have hj1 := HJ.out m
        have hj2 := HX.out m hkl
        clear hca a0 a2 a3
        generalize l[m].text = x1 at *
        generalize hJ : Tk.apartL (l.take m) = J at *
        clear hJ
        have hov1 : ¬ 9223372036854775807 < J.length + x1.size := by omega
        have hov2 : ¬ 9223372036854775807 < J.length + x1.size + 11 := by omega
        have hov3 : J.length + x1.size ≤ 9223372036854775807 := by omega
        have hov4 : J.length + x1.size + 11 ≤ 9223372036854775807 := by omega
        go_wp2_with fail
        go_round
        case rel =>
          refine ⟨m + 1, by omega, by go_num, ?_⟩
          rw [HJT.out]
          congr 1
          apply Tk.bytes_eq
          simp [ByteArray.data_append, Tk.sep]
        case measure => simp [intOf]; omega
      · obtain rfl : m = n := by omega
        obtain ⟨b, hb⟩ : ∃ b : ByteArray, b = ⟨(Tk.apartL (l.take m)).toArray⟩ := ⟨_, rfl⟩
        have hbd : b.data.toList = Tk.apartL l := by rw [hb, HN.out, List.take_length]
        have hbs : b.size ≤ 60000 := by
          have h1 := HJ.out m
          rw [hb]
          show (Tk.apartL (l.take m)).toArray.size ≤ 60000
          rw [List.size_toArray]
          exact h1
        rw [← hb]
        clear hb
        obtain ⟨h1, h2, h3, h4, h5⟩ := Id.blanks HT.out hbd (by omega)
        rw [HP.out] at h1 h2 h3 h5
        obtain ⟨⟨xb, bt, eb⟩, HQ⟩ : ∃ q, Hid (Id.parse b = q) := ⟨_, Lib.hid rfl⟩
        rw [HQ.out] at h1 h2 h3 h5
        simp only at h1 h2 h3 h5
        subst h1 h2
        have HTB := Lib.hid h4
        have HNUM := Lib.hid h5
        have H30 := Lib.hid h3
        clear h3 h4 h5 hml hbd
        go_wp2_with fail
        refine (pparse_any a (by omega) _ HK1.out).mono ?_
        rintro e w2 ⟨v2, rfl, hb2, hs2⟩
        rw [HP.out] at hs2 ⊢
        simp only at hs2 ⊢
        have HS2 := Lib.hid hs2
        obtain ⟨B1, m1, d1, B2, m2, d2, B3, m3, d3, rfl, -⟩ := hs2
        generalize xb.name = xn at *
        have hz2 := hb2.size
        have HB2 := Lib.hid ((bl_join HB1.out hb2).alloc (by have := HB1.out.size; omega) (.cells #[.string xn, .slice B1 m1 d1, .slice B2 m2 d2, .slice B3 m3 d3] 26))
        have HB12 := Lib.hid (hb2.alloc (by omega) (.cells #[.string xn, .slice B1 m1 d1, .slice B2 m2 d2, .slice B3 m3 d3] 26))
        have HK2 := Lib.hid (hk.below HB2.out)
        have HS2b := Lib.hid (Id.SchV.below ((Below.refl w2.heap.size w2).alloc (Nat.le_refl _) (.cells #[.string xn, .slice B1 m1 d1, .slice B2 m2 d2, .slice B3 m3 d3] 26)) HS2.out)
        have hq := Bk.new w2 26 #[.string xn, .slice B1 m1 d1, .slice B2 m2 d2, .slice B3 m3 d3]
        have HQ2 := Lib.hid hq
        clear hb2 hz2 hq
        go_wp2_with fail
        refine (pparse_any b (by omega) _ HK2.out).mono ?_
        rintro e w3 ⟨v3, rfl, hb3, hs3⟩
        rw [HQ.out] at hs3 ⊢
        simp only at hs3 ⊢
        have HS3 := Lib.hid hs3
        obtain ⟨C1, p1, f1, C2, p2, f2, C3, p3, f3, rfl, -⟩ := hs3
        generalize xb.name = yn at *
        have hz3 := hb3.size
        have e3 := (Below.refl w3.heap.size w3).alloc (Nat.le_refl _) (.cells #[.string yn, .slice C1 p1 f1, .slice C2 p2 f2, .slice C3 p3 f3] 26)
        have HB23 := Lib.hid (bl_join hb3 e3)
        have HB3 := Lib.hid (bl_join HB2.out HB23.out)
        have HK3 := Lib.hid (hk.below HB3.out)
        have HS3b := Lib.hid (Id.SchV.below e3 HS3.out)
        have HS2c := Lib.hid (Id.SchV.below HB23.out HS2b.out)
        have hq2 := HQ2.out.below HB23.out HQ2.out.lt
        have hne : ¬ w2.heap.size = w3.heap.size := by have := hb3.size; rw [World.size_alloc] at this; omega
        obtain ⟨⟨k0, k1, k2, k3⟩, -⟩ := hq2.k4
        clear hb3 hz3 e3 hq2
        have t1 : ((eb : Int) != (eb : Int)) = false := by simp
        go_wp2_with fail
        refine (same12_any xb xb _ _ _ (Id.SchV.weak (Id.wk_none _) HS2c.out) (Id.SchV.weak (Id.wk_none _) HS3b.out)).mono ?_
        rintro e w4 ⟨rfl, hb4⟩
        rw [Id.schEq_refl]
        have HB4 := Lib.hid (bl_join HB3.out hb4)
        have HK4 := Lib.hid (hk.below HB4.out)
        have HB14 := Lib.hid (bl_join (bl_join HB12.out HB23.out) hb4)
        clear hb4 k0 k1 k2 k3 t1
        by_cases heb : eb = 0
        · subst heb
          obtain ⟨rfl, rfl⟩ := H30.out rfl
          go_wp2_with fail
          refine (wakes12_any _ HK4.out).mono ?_
          rintro e w9 ⟨rfl, hb9⟩
          have HF := Lib.hid (bl_join HB4.out hb9)
          clear hb9
          go_wp2_with fail
          go_ret
          exact ⟨rfl, HF.out⟩
        · have t1 : ((eb : Int) == 0) = false := by rw [beq_eq_false_iff_ne]; omega
          have t2 : ¬ (eb : Int) = 0 := by omega
          have HEQ := Lib.hid (HNUM.out heb)
          clear heb
          go_wp2_with fail
          refine (all_any b (by unfold maxLen; omega) _).mono ?_
          rintro e w5 ⟨v5, rfl, hb5, hown5⟩
          rw [HTB.out] at hown5 ⊢
          simp only at hown5 ⊢
          obtain ⟨A5, c5, rfl, hr5, hln5⟩ := Tk.row_reads hown5
          rw [Tk.spaced_len, ← HN.out] at hown5 hln5 ⊢
          have HB5 := Lib.hid (bl_join HB4.out hb5)
          have HK5 := Lib.hid (hk.below HB5.out)
          have HR5 := Lib.hid hr5
          have HR15 := Lib.hid (HR1.out.below (bl_join HB14.out hb5))
          clear hb5 hown5 hr5
          go_wp2_with fail
          refine (number_any A l c at_ m HN.out (by omega) _ HR15.out).mono ?_
          rintro e w6 ⟨rfl, hw6⟩
          obtain rfl := hw6.symm
          go_wp2_with fail
          refine (number_any A5 (Tk.spaced l 0) c5 bt m (by rw [Tk.spaced_len]; exact HN.out) (by omega) _ HR5.out).mono ?_
          rintro e w7 ⟨rfl, hw7⟩
          obtain rfl := hw7.symm
          rw [HEQ.out]
          generalize Tk.number (Tk.spaced l 0) bt = nb at *
          have t3 : ((nb : Int) == (nb : Int)) = true := by simp
          go_wp2_with fail
          refine (wakes12_any _ HK5.out).mono ?_
          rintro e w9 ⟨rfl, hb9⟩
          have HF := Lib.hid (bl_join HB5.out hb9)
          clear hb9
          go_wp2_with fail
          go_ret
          exact ⟨rfl, HF.out⟩
end Go.Proofs.YtoomlpalkinipaaDoor
