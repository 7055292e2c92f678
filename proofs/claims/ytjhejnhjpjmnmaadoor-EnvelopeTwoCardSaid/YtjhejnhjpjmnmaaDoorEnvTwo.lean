/- EnvelopeTwo: the answer of a right call is a right letter, if its code and body may be. -/
import Derived.Test.YtjhejnhjpjmnmaaDoorEnvFacts
set_option linter.unusedVariables false
namespace Go.Proofs.YtjhejnhjpjmnmaaDoor
open Go.RowKit
namespace Ev
theorem empty_empty : ByteArray.empty.toList.isEmpty = true := by decide +kernel
theorem right_answer {l : Letter} {code : Int} {body : ByteArray} (h : right l = true) (hk : l.kind = 1 ∨ l.kind = 3) :
    right (answer l code body) = (decide (0 ≤ code) && decide (code ≤ 999) && decide (body.size ≤ 4096)) := by
  obtain ⟨f1, f2, f3, f4, f5, f6, f7, f8, f9⟩ := right_facts h
  have h1 : 1 ≤ l.key.size := by unfold right at h; grind
  have e := empty_empty
  unfold right answer peer
  simp only
  rcases hk with hk | hk
  · simp only [hk, e]
    simp
    grind
  · simp only [hk, e]
    simp
    grind
theorem wrong_answer {l : Letter} {code : Int} {body : ByteArray} (h1 : l.kind ≠ 1) (h3 : l.kind ≠ 3) : right (answer l code body) = false := by
  unfold right answer
  simp [h1, h3]
theorem pack_two (l : Letter) : ((pack l).2 = 0 ∧ right l = true) ∨ ((pack l).2 = 1 ∧ right l = false) := by
  cases h : right l
  · rw [pack_no h]; exact .inr ⟨rfl, rfl⟩
  · rw [pack_yes h]; exact .inl ⟨rfl, rfl⟩
end Ev
set_option maxRecDepth 100000 in
set_option maxHeartbeats 8000000 in
theorem two_walk (l : Ev.Letter) (code : Int) (body : ByteArray) (h0 : l.ok) (hx : (Lit.int .i64 l.from_).wf = true) (hy : (Lit.int .i64 l.to_).wf = true) (hz : (Lit.int .i64 l.code).wf = true)
    (hs : l.key.size ≤ maxLen) (hu : l.svc.size ≤ maxLen) (hm : l.mth.size ≤ maxLen) (hb : l.body.size ≤ maxLen) (hc : (Lit.int .i64 code).wf = true) (ht : body.size ≤ maxLen) (w : World) (hk : Tk.KW w) :
    Calls Tryd.prog 8 #[l.val, .int .i64 code, .string body] w fun e w' => e = .returned (.bool true) ∧ Below w.heap.size w w' := by
  have HG := Lib.hid (fun w' => great_any l w')
  clear hx hy hz hs hu hm hb hc
  cases hg : Ev.great l with
  | true =>
    rw [hg] at HG
    obtain ⟨k0, k1, k2, k3, k4, k5, k6, k7, k8, k9⟩ := l
    clear h0 hg
    unfold Ev.Letter.val at HG ⊢
    go_enter Tryd.func8, Tryd.ntmps8
    go_wp2_with fail
    refine (HG.out _).mono ?_
    rintro e w1 ⟨rfl, hb1⟩
    have hbA : Below w.heap.size w w1 := ((Below.refl w.heap.size w).alloc (Nat.le_refl _) _).trans (hb1.mono (by simp))
    clear hb1
    go_wp2_with fail
    refine (wakes_any _ (hk.below hbA)).mono ?_
    rintro e w2 ⟨rfl, hb2⟩
    go_wp2_with fail
    go_ret
    exact ⟨rfl, bl_join hbA hb2⟩
  | false =>
    rw [hg] at HG
    obtain ⟨z4, z6, z7, z9⟩ := Ev.great_no hg
    clear hg
    have HP := pack_any l h0 ⟨by omega, by omega⟩
    have HA := Lib.hid (fun w' => answer_any l code body w')
    have HRA := Lib.hid (fun h hk => Ev.right_answer (l := l) (code := code) (body := body) h hk)
    have HWA := Lib.hid (Ev.wrong_answer (l := l) (code := code) (body := body))
    have HPT := Ev.pack_two l
    have HQT := Ev.pack_two (Ev.answer l code body)
    have hok2 : (Ev.answer l code body).ok := ⟨by show (if l.kind = 1 then 2 else if l.kind = 3 then 4 else 0) < 256; split; decide; split <;> decide, h0.2.1, h0.2.2⟩
    have HQ := pack_any (Ev.answer l code body) hok2 ⟨Nat.zero_le _, Nat.zero_le _⟩
    generalize Ev.pack (Ev.answer l code body) = Q at HQ HQT
    generalize Ev.pack l = P at HP HPT
    obtain ⟨P1, P2⟩ := P
    obtain ⟨Q1, Q2⟩ := Q
    clear h0 hok2 z4 z6 z7 z9
    obtain ⟨k0, k1, k2, k3, k4, k5, k6, k7, k8, k9⟩ := l
    replace HPT := Lib.hid HPT
    replace HQT := Lib.hid HQT
    generalize hra : Ev.right (Ev.answer ⟨k0, k1, k2, k3, k4, k5, k6, k7, k8, k9⟩ code body) = ra at HRA HWA HQT
    generalize hrl : Ev.right ⟨k0, k1, k2, k3, k4, k5, k6, k7, k8, k9⟩ = rl at HRA HPT
    clear hra hrl
    unfold Ev.answer at HA HQ
    simp only at HA HQ HPT HQT HRA HWA
    generalize (if k0 = 1 then 2 else if k0 = 3 then 4 else 0 : Nat) = kd at HA HQ
    unfold Ev.Letter.val at HG HP HQ HA ⊢
    simp only at HG HP HQ HA ⊢
    replace HP := Lib.hid HP
    replace HQ := Lib.hid HQ
    go_enter Tryd.func8, Tryd.ntmps8
    go_wp2_with fail
    refine (HG.out _).mono ?_
    rintro e w1 ⟨rfl, hb1⟩
    have hbA : Below w.heap.size w w1 := ((Below.refl w.heap.size w).alloc (Nat.le_refl _) _).trans (hb1.mono (by simp))
    have hq : Bk w1 w.heap.size 24 #[.int .u8 k0, .int .i64 k1, .int .i64 k2, .int .u64 k3, .string k4, .int .u64 k5, .string k6, .string k7, .int .i64 k8, .string k9] := (Bk.new w 24 #[.int .u8 k0, .int .i64 k1, .int .i64 k2, .int .u64 k3, .string k4, .int .u64 k5, .string k6, .string k7, .int .i64 k8, .string k9]).below hb1 (by simp)
    clear hb1 HG
    obtain ⟨c0, c1, c2, c3, c4, c5, c6, c7, c8, c9⟩ := hq.ten
    by_cases hcut : 6000 < body.size
    · go_wp2_with fail
      refine (wakes_any _ (hk.below hbA)).mono ?_
      rintro e w2 ⟨rfl, hb2⟩
      go_wp2_with fail
      go_ret
      exact ⟨rfl, bl_join hbA hb2⟩
    · go_wp2_with fail
      refine (HP.out _ (hk.below hbA)).mono ?_
      rintro e w2 ⟨rfl, hb2⟩
      have hbB := bl_join hbA hb2
      have hq2 := hq.below hb2 hq.lt
      clear hb2 hbA c0 c1 c2 c3 c4 c5 c6 c7 c8 c9 hq HP
      obtain ⟨c0, c1, c2, c3, c4, c5, c6, c7, c8, c9⟩ := hq2.ten
      go_wp2_with fail
      refine (HA.out _).mono ?_
      rintro e w3 ⟨rfl, hb3⟩
      have hbC := bl_join hbB hb3
      have hq3 := hq2.below hb3 hq2.lt
      clear hb3 hbB c0 c1 c2 c3 c4 c5 c6 c7 c8 c9 hq2 HA
      obtain ⟨c0, c1, c2, c3, c4, c5, c6, c7, c8, c9⟩ := hq3.ten
      have hlt : w.heap.size < w3.heap.size := hq3.lt
      have hne : ¬ w.heap.size = w3.heap.size := by omega
      go_wp2_with fail
      have hbD : Below w.heap.size w _ := hbC.alloc hbC.size (.cells #[.int .u8 kd, .int .i64 k2, .int .i64 k1, .int .u64 k3, .string k4, .int .u64 k5, .string ByteArray.empty, .string ByteArray.empty, .int .i64 code, .string body] 24)
      have hq4 := hq3.alloc (.cells #[.int .u8 kd, .int .i64 k2, .int .i64 k1, .int .u64 k3, .string k4, .int .u64 k5, .string ByteArray.empty, .string ByteArray.empty, .int .i64 code, .string body] 24)
      generalize (w3.alloc (.cells #[.int .u8 kd, .int .i64 k2, .int .i64 k1, .int .u64 k3, .string k4, .int .u64 k5, .string ByteArray.empty, .string ByteArray.empty, .int .i64 code, .string body] 24)) = w4 at hbD hq4 ⊢
      clear hbC c0 c1 c2 c3 c4 c5 c6 c7 c8 c9 hq3 hlt hne
      refine (HQ.out _ (hk.below hbD)).mono ?_
      rintro e w5 ⟨rfl, hb5⟩
      have hbE := bl_join hbD hb5
      have hq5 := hq4.below hb5 hq4.lt
      clear hb5 hbD hq4 HQ
      obtain ⟨c0, _⟩ := hq5.ten
      clear hq5
      have u1 : k0 = 1 → ((k0 : Int) == 1) = true := by rintro rfl; rfl
      have u2 : k0 ≠ 1 → ((k0 : Int) == 1) = false := by intro h; rw [beq_eq_false_iff_ne]; omega
      have u3 : k0 = 3 → ((k0 : Int) == 3) = true := by rintro rfl; rfl
      have u4 : k0 ≠ 3 → ((k0 : Int) == 3) = false := by intro h; rw [beq_eq_false_iff_ne]; omega
      by_cases h1 : k0 = 1 ∨ k0 = 3
      · rcases HPT.out with ⟨hp, hr⟩ | ⟨hp, hr⟩
        · have hra := HRA.out hr h1
          have hqq : (Q2 = 0 ∧ 0 ≤ code ∧ code ≤ 999 ∧ body.size ≤ 4096) ∨ (Q2 = 1 ∧ code < 0) ∨ (Q2 = 1 ∧ 0 ≤ code ∧ 999 < code) ∨ (Q2 = 1 ∧ 0 ≤ code ∧ code ≤ 999 ∧ 4096 < body.size) := by
            rcases HQT.out with ⟨hq, hr2⟩ | ⟨hq, hr2⟩ <;> rw [hra] at hr2 <;> simp at hr2 <;> omega
          have hs1 : ((k0 : Int) == 1) = true ∨ (((k0 : Int) == 1) = false ∧ ((k0 : Int) == 3) = true) := by
            rcases h1 with h1 | h1
            · exact .inl (u1 h1)
            · exact .inr ⟨u2 (by omega), u3 h1⟩
          clear HPT HRA HQT HWA u1 u2 u3 u4 h1 hr hra ht hcut
          subst hp
          rcases hs1 with hs1 | ⟨hs1, hs3⟩ <;> rcases hqq with ⟨hq, g1, g2, g3⟩ | ⟨hq, g1⟩ | ⟨hq, g1, g2⟩ | ⟨hq, g1, g2, g3⟩ <;> subst hq
          all_goals
            go_wp2_with fail
            refine (wakes_any _ (hk.below hbE)).mono ?_
            rintro e w6 ⟨rfl, hb6⟩
            have hbF := bl_join hbE hb6
            clear hb6 hbE
            go_wp2_with fail
            go_ret
            exact ⟨by first | rfl | (refine ret_bool ?_; simp; omega) | (refine ret_eq ?_; simp; omega), hbF⟩
        · clear HRA HQT HWA HPT u1 u2 u3 u4 hcut
          have hs1 : ((k0 : Int) == 1) = true ∨ (((k0 : Int) == 1) = false ∧ ((k0 : Int) == 3) = true) := by
            rcases h1 with h1 | h1
            · exact .inl (by rw [h1]; rfl)
            · exact .inr ⟨by rw [h1]; rfl, by rw [h1]; rfl⟩
          subst hp
          rcases hs1 with hs1 | ⟨hs1, hs3⟩
          all_goals
            go_wp2_with fail
            refine (wakes_any _ (hk.below hbE)).mono ?_
            rintro e w6 ⟨rfl, hb6⟩
            have hbF := bl_join hbE hb6
            clear hb6 hbE
            go_wp2_with fail
            go_ret
            exact ⟨by first | rfl | (refine ret_bool ?_; simp; omega) | (refine ret_eq ?_; simp; omega), hbF⟩
      · have hq : Q2 = 1 := by
          have := HWA.out (fun h => h1 (.inl h)) (fun h => h1 (.inr h))
          rcases HQT.out with ⟨hq, hr2⟩ | ⟨hq, hr2⟩
          · rw [this] at hr2; cases hr2
          · exact hq
        have hs1 := u2 (fun h => h1 (.inl h))
        have hs3 := u4 (fun h => h1 (.inr h))
        have hp : P2 = 0 ∨ P2 = 1 := by rcases HPT.out with ⟨hp, _⟩ | ⟨hp, _⟩ <;> omega
        clear HRA HQT HWA HPT u1 u2 u3 u4 h1 hcut
        subst hq
        rcases hp with rfl | rfl
        all_goals
          go_wp2_with fail
          refine (wakes_any _ (hk.below hbE)).mono ?_
          rintro e w6 ⟨rfl, hb6⟩
          have hbF := bl_join hbE hb6
          clear hb6 hbE
          go_wp2_with fail
          go_ret
          exact ⟨by first | rfl | (refine ret_bool ?_; simp; omega) | (refine ret_eq ?_; simp; omega), hbF⟩
end Go.Proofs.YtjhejnhjpjmnmaaDoor
