/- EnvelopeReads: the letter that bytes are, the program's and the document's; as they are, and with their sum behind them. -/
import Derived.Test.YtjhejnhjpjmnmaaDoorEnvRe
import Derived.Test.YtjhejnhjpjmnmaaDoorEnvQ2
import Derived.Test.YtjhejnhjpjmnmaaDoorQR
set_option linter.unusedVariables false
namespace Go.Proofs.YtjhejnhjpjmnmaaDoor
open Go.RowKit
set_option maxRecDepth 100000 in
set_option maxHeartbeats 8000000 in
theorem reads_walk (b : ByteArray) (ht : b.size ≤ maxLen) (w : World) (hk : Tk.KW w) :
    Calls Tryd.prog 4 #[.string b] w fun e w' => e = .returned (.bool true) ∧ Below w.heap.size w w' := by
  have HW : Hid (∀ x : ByteArray, 9000 < x.size → (x.extract 0 9000).size ≤ 9000) := Lib.hid (by intro x _; simp; omega)
  have HRD : Hid (∀ s : ByteArray, s.size ≤ 10000 → ∀ w, Tk.KW w → _) := Lib.hid (fun s hs w hk => read_any s hs w hk)
  have HRR : Hid (∀ s : ByteArray, s.size ≤ 9500 → ∀ w, _) := Lib.hid (fun s hs w => rread_any s hs w)
  clear ht
  go_enter Tryd.func4, Tryd.ntmps4
  by_cases hcut : 9000 < b.size
  case' pos =>
    go_wp2_with fail
    have hxs := HW.out b hcut
    generalize b.extract 0 9000 = x at hxs ⊢
  case' neg =>
    go_wp2_with fail
    have hxs : b.size ≤ 9000 := by omega
    obtain ⟨x, rfl⟩ : ∃ x : ByteArray, x = b := ⟨_, rfl⟩
  all_goals
    clear hcut HW
    have C1 := HRD.out x (by omega)
    have C2 := HRR.out x (by omega)
    rw [Ev.rread_eq] at C2
    have CT := Lib.hid (fun w' => tail_any x (by unfold maxLen; omega) w')
    have hz4 : (⟨(Sm.le4 (Sm.crc x.data.toList)).toArray⟩ : ByteArray).size = 4 := rfl
    generalize (⟨(Sm.le4 (Sm.crc x.data.toList)).toArray⟩ : ByteArray) = tl at hz4 CT
    have hxt : (x ++ tl).size ≤ 9004 := by rw [ByteArray.size_append]; omega
    have hxt2 : x.size + tl.size ≤ 9223372036854775807 := by omega
    have C3 := HRD.out (x ++ tl) (by omega)
    have C4 := HRR.out (x ++ tl) (by omega)
    rw [Ev.rread_eq] at C4
    generalize Ev.readP x = R at C1 C2
    generalize Ev.readP (x ++ tl) = S at C3 C4
    obtain ⟨⟨k0, k1, k2, k3, k4, k5, k6, k7, k8, k9⟩, n⟩ := R
    obtain ⟨⟨r0, r1, r2, r3, r4, r5, r6, r7, r8, r9⟩, m⟩ := S
    unfold Ev.Letter.val at C1 C2 C3 C4
    simp only at C1 C2 C3 C4
    replace C1 := Lib.hid C1
    replace C2 := Lib.hid C2
    replace C3 := Lib.hid C3
    replace C4 := Lib.hid C4
    clear HRD HRR hz4 hxt
    refine (C1.out _ hk).mono ?_
    rintro e w1 ⟨rfl, hb1⟩
    clear C1
    go_wp2_with fail
    have hq : Bk _ w1.heap.size 24 #[.int .u8 k0, .int .i64 k1, .int .i64 k2, .int .u64 k3, .string k4, .int .u64 k5, .string k6, .string k7, .int .i64 k8, .string k9] := Bk.new w1 24 #[.int .u8 k0, .int .i64 k1, .int .i64 k2, .int .u64 k3, .string k4, .int .u64 k5, .string k6, .string k7, .int .i64 k8, .string k9]
    have hbA : Below w.heap.size w _ := hb1.alloc hb1.size (.cells #[.int .u8 k0, .int .i64 k1, .int .i64 k2, .int .u64 k3, .string k4, .int .u64 k5, .string k6, .string k7, .int .i64 k8, .string k9] 24)
    have hg1 : w.heap.size ≤ w1.heap.size := hb1.size
    clear hb1
    generalize (w1.alloc (.cells #[.int .u8 k0, .int .i64 k1, .int .i64 k2, .int .u64 k3, .string k4, .int .u64 k5, .string k6, .string k7, .int .i64 k8, .string k9] 24)) = w2 at hq hbA ⊢
    refine (C2.out _).mono ?_
    rintro e w3 ⟨rfl, hb3⟩
    have hq3 := hq.below hb3 hq.lt
    have hbB := bl_join hbA hb3
    have hlt : w1.heap.size < w3.heap.size := hq3.lt
    have hne : ¬ w1.heap.size = w3.heap.size := by omega
    clear C2 hb3 hq hbA
    obtain ⟨c0, c1, c2, c3, c4, c5, c6, c7, c8, c9⟩ := hq3.ten
    go_wp2_with fail
    have hq4 := hq3.alloc (.cells #[.int .u8 k0, .int .i64 k1, .int .i64 k2, .int .u64 k3, .string k4, .int .u64 k5, .string k6, .string k7, .int .i64 k8, .string k9] 24)
    have hu : Bk _ w3.heap.size 24 #[.int .u8 k0, .int .i64 k1, .int .i64 k2, .int .u64 k3, .string k4, .int .u64 k5, .string k6, .string k7, .int .i64 k8, .string k9] := Bk.new w3 24 #[.int .u8 k0, .int .i64 k1, .int .i64 k2, .int .u64 k3, .string k4, .int .u64 k5, .string k6, .string k7, .int .i64 k8, .string k9]
    have hbC : Below w.heap.size w _ := hbB.alloc hbB.size (.cells #[.int .u8 k0, .int .i64 k1, .int .i64 k2, .int .u64 k3, .string k4, .int .u64 k5, .string k6, .string k7, .int .i64 k8, .string k9] 24)
    have hg3 : w.heap.size ≤ w3.heap.size := hbB.size
    clear hq3 hbB c0 c1 c2 c3 c4 c5 c6 c7 c8 c9
    generalize (w3.alloc (.cells #[.int .u8 k0, .int .i64 k1, .int .i64 k2, .int .u64 k3, .string k4, .int .u64 k5, .string k6, .string k7, .int .i64 k8, .string k9] 24)) = w4 at hq4 hu hbC ⊢
    refine (CT.out _).mono ?_
    rintro e w5 ⟨rfl, hb5⟩
    have hq5 := hq4.below hb5 hq4.lt
    have hu5 := hu.below hb5 hu.lt
    have hbD := bl_join hbC hb5
    clear CT hb5 hq4 hu hbC
    go_wp2_with fail
    refine (C3.out _ (hk.below hbD)).mono ?_
    rintro e w6 ⟨rfl, hb6⟩
    have hQ := hq5.below hb6 hq5.lt
    have hU := hu5.below hb6 hu5.lt
    have hbE := bl_join hbD hb6
    clear C3 hb6 hq5 hu5 hbD
    go_wp2_with (refine wpList_store_row rfl _ _ _ rfl _ _ rfl rfl _ _ hQ (by kernel_rfl) rfl (by simp [Value.oneCell']) ?_)
    have hq7 : Bk _ w1.heap.size 24 #[.int .u8 r0, .int .i64 r1, .int .i64 r2, .int .u64 r3, .string r4, .int .u64 r5, .string r6, .string r7, .int .i64 r8, .string r9] := hQ.row #[.int .u8 r0, .int .i64 r1, .int .i64 r2, .int .u64 r3, .string r4, .int .u64 r5, .string r6, .string r7, .int .i64 r8, .string r9]
    have hu7 := hU.row_far (g' := w1.heap.size) (by omega) #[.int .u8 r0, .int .i64 r1, .int .i64 r2, .int .u64 r3, .string r4, .int .u64 r5, .string r6, .string r7, .int .i64 r8, .string r9]
    have hbF := below_row hbE hg1 #[.int .u8 r0, .int .i64 r1, .int .i64 r2, .int .u64 r3, .string r4, .int .u64 r5, .string r6, .string r7, .int .i64 r8, .string r9]
    clear hQ hU hbE
    generalize w6.setRow w1.heap.size #[.int .u8 r0, .int .i64 r1, .int .i64 r2, .int .u64 r3, .string r4, .int .u64 r5, .string r6, .string r7, .int .i64 r8, .string r9] = w7 at hq7 hu7 hbF ⊢
    refine (C4.out _).mono ?_
    rintro e w8 ⟨rfl, hb8⟩
    have hQ := hu7.below hb8 hu7.lt
    have hU := hq7.below hb8 hq7.lt
    have hbG := bl_join hbF hb8
    clear C4 hb8 hq7 hu7 hbF
    obtain ⟨c0, c1, c2, c3, c4, c5, c6, c7, c8, c9⟩ := (hQ.row #[.int .u8 r0, .int .i64 r1, .int .i64 r2, .int .u64 r3, .string r4, .int .u64 r5, .string r6, .string r7, .int .i64 r8, .string r9]).ten
    obtain ⟨d0, d1, d2, d3, d4, d5, d6, d7, d8, d9⟩ := (hU.row_far (g' := w3.heap.size) hne #[.int .u8 r0, .int .i64 r1, .int .i64 r2, .int .u64 r3, .string r4, .int .u64 r5, .string r6, .string r7, .int .i64 r8, .string r9]).ten
    have hbH := below_row hbG hg3 #[.int .u8 r0, .int .i64 r1, .int .i64 r2, .int .u64 r3, .string r4, .int .u64 r5, .string r6, .string r7, .int .i64 r8, .string r9]
    clear hU hbG
    go_wp2_with (refine wpList_store_row rfl _ _ _ rfl _ _ rfl rfl _ _ hQ (by kernel_rfl) rfl (by simp [Value.oneCell']) ?_)
    refine (wakes_any _ (hk.below hbH)).mono ?_
    rintro e w9 ⟨rfl, hb9⟩
    have hbI := bl_join hbH hb9
    clear hb9 hbH c0 c1 c2 c3 c4 c5 c6 c7 c8 c9 d0 d1 d2 d3 d4 d5 d6 d7 d8 d9 hQ
    go_wp2_with fail
    go_ret
    exact ⟨rfl, hbI⟩
end Go.Proofs.YtjhejnhjpjmnmaaDoor
