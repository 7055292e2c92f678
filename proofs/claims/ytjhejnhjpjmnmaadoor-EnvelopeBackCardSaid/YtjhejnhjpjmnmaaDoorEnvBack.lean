/- EnvelopeBack: what is read of a letter's bytes is the letter, and whatever is read has just these bytes. -/
import Derived.Test.YtjhejnhjpjmnmaaDoorEnvFacts
set_option linter.unusedVariables false
namespace Go.Proofs.YtjhejnhjpjmnmaaDoor
open Go.RowKit
set_option maxRecDepth 100000 in
set_option maxHeartbeats 8000000 in
theorem back_walk (l : Ev.Letter) (b : ByteArray) (h0 : l.ok) (hx : (Lit.int .i64 l.from_).wf = true) (hy : (Lit.int .i64 l.to_).wf = true) (hz : (Lit.int .i64 l.code).wf = true)
    (hs : l.key.size ≤ maxLen) (hu : l.svc.size ≤ maxLen) (hm : l.mth.size ≤ maxLen) (hb : l.body.size ≤ maxLen) (ht : b.size ≤ maxLen) (w : World) (hk : Tk.KW w) :
    Calls Tryd.prog 5 #[l.val, .string b] w fun e w' => e = .returned (.bool true) ∧ Below w.heap.size w w' := by
  have HG := Lib.hid (fun w' => great_any l w')
  clear hx hy hz hs hu hm hb
  cases hg : Ev.great l with
  | true =>
    rw [hg] at HG
    obtain ⟨k0, k1, k2, k3, k4, k5, k6, k7, k8, k9⟩ := l
    clear h0 hg
    unfold Ev.Letter.val at HG ⊢
    go_enter Tryd.func5, Tryd.ntmps5
    go_wp2_with fail
    refine (HG.out _).mono ?_
    rintro e w1 ⟨rfl, hb1⟩
    have hbA : Below w.heap.size w w1 := ((Below.refl w.heap.size w).alloc (Nat.le_refl _) _).trans (hb1.mono (by simp))
    clear hb1
    go_wp2_with fail
    refine (wakes_any _ (hk.below hbA)).mono ?_
    rintro e w2 ⟨rfl, hb2⟩
    go_wp2_with fail
    go_ret
    exact ⟨rfl, bl_join hbA hb2⟩
  | false =>
    rw [hg] at HG
    obtain ⟨z4, z6, z7, z9⟩ := Ev.great_no hg
    clear hg
    have hp := pack_any l h0 ⟨by omega, by omega⟩
    have HR : Hid (∀ P, Ev.pack l = P → P.2 = 0 → Ev.readP P.1 = (l, 0) ∧ P.1.size ≤ 10000) := Lib.hid (by
      rintro P rfl h2
      cases hr : Ev.right l with
      | false => rw [Ev.pack_no hr] at h2; cases h2
      | true =>
        have := (Ev.bytes_len hr).1
        rw [Ev.pack_yes hr]
        exact ⟨Ev.readP_bytes h0 hr, by show (Ev.bytes l).toArray.size ≤ _; rw [List.size_toArray]; omega⟩)
    have HN : Hid (∀ P, Ev.pack l = P → P.2 ≠ 0 → P = (ByteArray.empty, 1)) := Lib.hid (by
      rintro P rfl h2
      cases hr : Ev.right l with
      | false => exact Ev.pack_no hr
      | true => rw [Ev.pack_yes hr] at h2; exact absurd rfl h2)
    have HW : Hid (∀ x : ByteArray, 9000 < x.size → (x.extract 0 9000).size ≤ 9000) := Lib.hid (by intro x _; simp; omega)
    generalize hP : Ev.pack l = P at hp
    obtain ⟨P1, P2⟩ := P
    replace HR := Lib.hid (HR.out _ hP)
    replace HN := Lib.hid (HN.out _ hP)
    have HRD : Hid (∀ s : ByteArray, s.size ≤ 10000 → ∀ w, Tk.KW w → _) := Lib.hid (fun s hs w hk => read_any s hs w hk)
    have HP := Lib.hid hp
    simp only at HR HN
    clear hP hp z4 z6 z7 z9 h0
    obtain ⟨k0, k1, k2, k3, k4, k5, k6, k7, k8, k9⟩ := l
    unfold Ev.Letter.val at HG HP ⊢
    go_enter Tryd.func5, Tryd.ntmps5
    go_wp2_with fail
    refine (HG.out _).mono ?_
    rintro e w1 ⟨rfl, hb1⟩
    have hbA : Below w.heap.size w w1 := ((Below.refl w.heap.size w).alloc (Nat.le_refl _) _).trans (hb1.mono (by simp))
    have hq : Bk w1 w.heap.size 24 #[.int .u8 k0, .int .i64 k1, .int .i64 k2, .int .u64 k3, .string k4, .int .u64 k5, .string k6, .string k7, .int .i64 k8, .string k9] := (Bk.new w 24 #[.int .u8 k0, .int .i64 k1, .int .i64 k2, .int .u64 k3, .string k4, .int .u64 k5, .string k6, .string k7, .int .i64 k8, .string k9]).below hb1 (by simp)
    clear hb1
    obtain ⟨c0, c1, c2, c3, c4, c5, c6, c7, c8, c9⟩ := hq.ten
    by_cases hcut : 9000 < b.size
    case' pos =>
      go_wp2_with fail
      have hxs := HW.out b hcut
      generalize b.extract 0 9000 = x at hxs ⊢
    case' neg =>
      go_wp2_with fail
      have hxs : b.size ≤ 9000 := by omega
      obtain ⟨x, rfl⟩ : ∃ x : ByteArray, x = b := ⟨_, rfl⟩
    all_goals
      clear hcut HW
      refine (HP.out _ (hk.below hbA)).mono ?_
      rintro e w2 ⟨rfl, hb2⟩
      have hbB := bl_join hbA hb2
      have hq2 := hq.below hb2 hq.lt
      clear hb2 hbA c0 c1 c2 c3 c4 c5 c6 c7 c8 c9 hq HP HG
      by_cases h2 : P2 = 0
    case' pos | pos =>
      obtain ⟨hread, hsz⟩ := HR.out h2
      subst h2
      clear HR HN
      have HRP := HRD.out P1 hsz
      rw [hread] at HRP
      have HRP := Lib.hid HRP
      clear hread hsz
      go_wp2_with fail
      refine (HRP.out _ (hk.below hbB)).mono ?_
      rintro e w3 ⟨rfl, hb3⟩
      have hbC := bl_join hbB hb3
      have hq3 := hq2.below hb3 hq2.lt
      obtain ⟨c0, c1, c2, c3, c4, c5, c6, c7, c8, c9⟩ := hq3.ten
      have hlt : w.heap.size < w3.heap.size := hq3.lt
      have hne : ¬ w.heap.size = w3.heap.size := by omega
      clear hb3 hbB hq2
      unfold Ev.Letter.val
      simp only
      go_wp2_with fail
      have hbD : Below w.heap.size w _ := hbC.alloc hbC.size (.cells #[.int .u8 k0, .int .i64 k1, .int .i64 k2, .int .u64 k3, .string k4, .int .u64 k5, .string k6, .string k7, .int .i64 k8, .string k9] 24)
      generalize (w3.alloc (.cells #[.int .u8 k0, .int .i64 k1, .int .i64 k2, .int .u64 k3, .string k4, .int .u64 k5, .string k6, .string k7, .int .i64 k8, .string k9] 24)) = w4 at hbD ⊢
      clear hbC c0 c1 c2 c3 c4 c5 c6 c7 c8 c9 hq3 hlt hne HRP
    case' neg | neg =>
      cases HN.out h2
      clear HN HR h2
      go_wp2_with fail
      have hbD := hbB
      obtain ⟨w4, rfl⟩ : ∃ w4 : World, w4 = w2 := ⟨_, rfl⟩
      clear hbB hq2
    all_goals
      have HRX := HRD.out x (by omega)
      rcases Ev.readP_cases x with ⟨r, hrx, hok, hri, hpk⟩ | ⟨n, hrx, hn⟩
      · rw [hrx] at HRX
        replace HRX := Lib.hid HRX
        clear hrx HRD
        have hnm := Ev.right_names hri
        have HPR := pack_any r hok ⟨by omega, by omega⟩
        rw [hpk] at HPR
        replace HPR := Lib.hid HPR
        clear hri hpk hok hnm
        obtain ⟨r0, r1, r2, r3, r4, r5, r6, r7, r8, r9⟩ := r
        refine (HRX.out _ (hk.below hbD)).mono ?_
        rintro e w5 ⟨rfl, hb5⟩
        have hbE := bl_join hbD hb5
        clear hb5 hbD HRX
        unfold Ev.Letter.val at HPR ⊢
        simp only
        go_wp2_with fail
        have hbF : Below w.heap.size w _ := hbE.alloc hbE.size (.cells #[.int .u8 r0, .int .i64 r1, .int .i64 r2, .int .u64 r3, .string r4, .int .u64 r5, .string r6, .string r7, .int .i64 r8, .string r9] 24)
        generalize (w5.alloc (.cells #[.int .u8 r0, .int .i64 r1, .int .i64 r2, .int .u64 r3, .string r4, .int .u64 r5, .string r6, .string r7, .int .i64 r8, .string r9] 24)) = w6 at hbF ⊢
        clear hbE
        refine (HPR.out _ (hk.below hbF)).mono ?_
        rintro e w7 ⟨rfl, hb7⟩
        have hbG := bl_join hbF hb7
        clear hb7 hbF HPR
        go_wp2_with fail
        refine (wakes_any _ (hk.below hbG)).mono ?_
        rintro e w8 ⟨rfl, hb8⟩
        have hbH := bl_join hbG hb8
        clear hb8 hbG
        go_wp2_with fail
        go_ret
        exact ⟨rfl, hbH⟩
      · rw [hrx] at HRX
        replace HRX := Lib.hid HRX
        clear hrx HRD
        refine (HRX.out _ (hk.below hbD)).mono ?_
        rintro e w5 ⟨rfl, hb5⟩
        have hbE := bl_join hbD hb5
        clear hb5 hbD HRX
        have hn2 : ((n : Int) == 0) = false := by rw [beq_eq_false_iff_ne]; omega
        have hn3 : ((n : Int) != 0) = true := by rw [bne_iff_ne]; omega
        unfold Ev.Letter.val Ev.Letter.zero
        simp only
        go_wp2_with fail
        have hbF : Below w.heap.size w _ := hbE.alloc hbE.size (.cells #[.int .u8 0, .int .i64 0, .int .i64 0, .int .u64 0, .string ByteArray.empty, .int .u64 0, .string ByteArray.empty, .string ByteArray.empty, .int .i64 0, .string ByteArray.empty] 24)
        generalize (w5.alloc (.cells #[.int .u8 0, .int .i64 0, .int .i64 0, .int .u64 0, .string ByteArray.empty, .int .u64 0, .string ByteArray.empty, .string ByteArray.empty, .int .i64 0, .string ByteArray.empty] 24)) = w6 at hbF ⊢
        clear hbE
        refine (wakes_any _ (hk.below hbF)).mono ?_
        rintro e w8 ⟨rfl, hb8⟩
        have hbH := bl_join hbF hb8
        clear hb8 hbF
        go_wp2_with fail
        go_ret
        exact ⟨rfl, hbH⟩
end Go.Proofs.YtjhejnhjpjmnmaaDoor
