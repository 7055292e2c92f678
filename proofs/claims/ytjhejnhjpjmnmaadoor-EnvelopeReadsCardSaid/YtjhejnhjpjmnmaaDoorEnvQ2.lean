/- The reference's Pack (printed by gen_rpack.py). -/
import Derived.Test.YtjhejnhjpjmnmaaDoorEnvQ
import Derived.Test.YtjhejnhjpjmnmaaDoorEnvFacts
import Derived.Test.YtjhejnhjpjmnmaaDoorMono
set_option linter.unusedVariables false
set_option linter.unusedSimpArgs false
namespace Go.Proofs.YtjhejnhjpjmnmaaDoor
open Go.RowKit Go.BigFrame
namespace Ev
/-- What each temporary of the region holds. -/
def rpT (g k0 k1 k2 k3 : Nat) (k4 : ByteArray) (k5 : Nat) (k6 k7 : ByteArray) (k8 : Nat) (k9 : ByteArray) : Array Value := #[undef, undef, undef, undef, .string ((((((((Ev.threeS k0 k1 k2) ++ (Ev.varS k3)) ++ (Ev.txtS k4)) ++ (Ev.bigS k5)) ++ (Ev.txtS k6)) ++ (Ev.txtS k7)) ++ (Ev.varS k8)) ++ (Ev.txtS k9)), undef, undef, undef, .pointer (some ⟨g, 0, none⟩), .int .u8 k0, .pointer (some ⟨g, 1, none⟩), .int .i64 k1, .int .u8 k1, .pointer (some ⟨g, 2, none⟩), .int .i64 k2, .int .u8 k2, undef, .string (Ev.threeS k0 k1 k2), .pointer (some ⟨g, 3, none⟩), .int .u64 k3, .string (Ev.varS k3), .string ((Ev.threeS k0 k1 k2) ++ (Ev.varS k3)), .pointer (some ⟨g, 4, none⟩), .string k4, .string (Ev.txtS k4), .string (((Ev.threeS k0 k1 k2) ++ (Ev.varS k3)) ++ (Ev.txtS k4)), .pointer (some ⟨g, 5, none⟩), .int .u64 k5, .string (Ev.bigS k5), .string ((((Ev.threeS k0 k1 k2) ++ (Ev.varS k3)) ++ (Ev.txtS k4)) ++ (Ev.bigS k5)), .pointer (some ⟨g, 6, none⟩), .string k6, .string (Ev.txtS k6), .string (((((Ev.threeS k0 k1 k2) ++ (Ev.varS k3)) ++ (Ev.txtS k4)) ++ (Ev.bigS k5)) ++ (Ev.txtS k6)), .pointer (some ⟨g, 7, none⟩), .string k7, .string (Ev.txtS k7), .string ((((((Ev.threeS k0 k1 k2) ++ (Ev.varS k3)) ++ (Ev.txtS k4)) ++ (Ev.bigS k5)) ++ (Ev.txtS k6)) ++ (Ev.txtS k7)), .pointer (some ⟨g, 8, none⟩), .int .i64 k8, .int .u64 k8, .string (Ev.varS k8), .string (((((((Ev.threeS k0 k1 k2) ++ (Ev.varS k3)) ++ (Ev.txtS k4)) ++ (Ev.bigS k5)) ++ (Ev.txtS k6)) ++ (Ev.txtS k7)) ++ (Ev.varS k8)), .pointer (some ⟨g, 9, none⟩), .string k9, .string (Ev.txtS k9), .string ((((((((Ev.threeS k0 k1 k2) ++ (Ev.varS k3)) ++ (Ev.txtS k4)) ++ (Ev.bigS k5)) ++ (Ev.txtS k6)) ++ (Ev.txtS k7)) ++ (Ev.varS k8)) ++ (Ev.txtS k9)), undef, undef, undef, undef]
def rpG (g k0 k1 k2 k3 : Nat) (k4 : ByteArray) (k5 : Nat) (k6 k7 : ByteArray) (k8 : Nat) (k9 : ByteArray) (d : Tmp) (v : Value) (w : World) : Prop :=
  if d = 16 then ∃ b, v = .slice (some ⟨b, 0, none⟩) 3 3 ∧ Bk w b 5 #[.int .u8 k0, .int .u8 k1, .int .u8 k2] else v = (rpT g k0 k1 k2 k3 k4 k5 k6 k7 k8 k9).getD d undef
theorem rpG_keep (g k0 k1 k2 k3 : Nat) (k4 : ByteArray) (k5 : Nat) (k6 k7 : ByteArray) (k8 : Nat) (k9 : ByteArray) (d : Tmp) (v : Value) (w w' : World) (h : rpG g k0 k1 k2 k3 k4 k5 k6 k7 k8 k9 d v w) (hb : Below w.heap.size w w') : rpG g k0 k1 k2 k3 k4 k5 k6 k7 k8 k9 d v w' := by
  unfold rpG at h ⊢
  split
  · rename_i e
    rw [if_pos e] at h
    obtain ⟨b, h1, h2⟩ := h
    exact ⟨b, h1, h2.below hb h2.lt⟩
  · rename_i e
    rw [if_neg e] at h
    exact h
theorem run_three_bk {a b c : Nat} (ha : a < 256) (hb : b < 256) (hc : c < 256) {w : World} {g : Nat} (h : Bk w g 5 #[.int .u8 a, .int .u8 b, .int .u8 c]) :
    Sem.run Tryd.prog (convert 37 9 (.slice (some ⟨g, 0, none⟩) 3 3)) w = .ok (.string (threeS a b c)) w := by
  have e : ∀ x, x < 256 → (UInt8.ofNat x).toNat = x := fun x hx => by rw [Sm.ofNat_toNat, Nat.mod_eq_of_lt hx]
  refine run_convert_bytes_back (P := Tryd.prog) w 37 9 5 ⟨g, 0, none⟩ 3 [UInt8.ofNat a, UInt8.ofNat b, UInt8.ofNat c] Tryd.underlying37 Tryd.underlying5 Tryd.underlying9 ?_
  intro j hj
  have hadd : (⟨g, 0, none⟩ : Addr).add j = ⟨g, j, none⟩ := by unfold Addr.add; split <;> simp_all
  rw [hadd, h.cell j]
  match j, hj with
  | 0, _ => simp [e a ha]
  | 1, _ => simp [e b hb]
  | 2, _ => simp [e c hc]
end Ev
set_option maxRecDepth 100000 in
set_option maxHeartbeats 16000000 in
theorem rpack_any (l : Ev.Letter) (hl : l.ok) (h6 : l.svc.size ≤ 10000 ∧ l.mth.size ≤ 10000) (w : World) :
    Calls Tryd.prog 12 #[l.val] w fun e w' => e = .returned (.tuple #[.string (Ev.pack l).1, .int .i64 (Ev.pack l).2]) ∧ Below w.heap.size w w' := by
  have HR0 := rright_any l hl
  cases hr : Ev.right l
  · have HP := Lib.hid (Ev.pack_no hr)
    have HR := Lib.hid hr
    clear hr
    rw [HP.out]
    obtain ⟨k0, k1, k2, k3, k4, k5, k6, k7, k8, k9⟩ := l
    unfold Ev.Letter.val at HR0 ⊢
    have HR1 := Lib.hid HR0
    clear HR0
    go_enter Tryd.func12, Tryd.ntmps12
    go_wp2_with fail
    refine (HR1.out _).mono ?_
    rintro e w1 ⟨rfl, hb1⟩
    simp only [World.size_alloc] at hb1
    rw [HR.out]
    go_wp2_with fail
    go_ret2
    exact ⟨rfl, ((Below.refl w.heap.size w).alloc (Nat.le_refl _) _).trans (hb1.mono (by omega))⟩
  · have HP := Lib.hid (Ev.pack_yes hr)
    have HR := Lib.hid hr
    obtain ⟨f1, f2, f3, f4, f5, f6, f7, f8, f9⟩ := Ev.right_facts hr
    clear hr
    rw [HP.out]
    obtain ⟨k0, k1, k2, k3, k4, k5, k6, k7, k8, k9⟩ := l
    obtain ⟨g1, g2, g3⟩ := hl
    obtain ⟨g4, g5⟩ := h6
    simp only at f1 f2 f3 f4 f5 f6 f7 f8 f9 g1 g2 g3 g4 g5
    obtain ⟨k1, rfl⟩ := Int.eq_ofNat_of_zero_le f1
    obtain ⟨k2, rfl⟩ := Int.eq_ofNat_of_zero_le f3
    obtain ⟨k8, rfl⟩ := Int.eq_ofNat_of_zero_le f5
    unfold Ev.Letter.val at HR0 ⊢
    have HR1 := Lib.hid HR0
    have HB : Hid (Ev.bytes ⟨k0, k1, k2, k3, k4, k5, k6, k7, k8, k9⟩ = ((((((([UInt8.ofNat k0, UInt8.ofNat k1, UInt8.ofNat k2] ++ Ev.var k3) ++ Ev.txt k4) ++ Ev.big k5 8) ++ Ev.txt k6) ++ Ev.txt k7) ++ Ev.var k8) ++ Ev.txt k9) ++ Sm.le4 (Sm.crc ((((((([UInt8.ofNat k0, UInt8.ofNat k1, UInt8.ofNat k2] ++ Ev.var k3) ++ Ev.txt k4) ++ Ev.big k5 8) ++ Ev.txt k6) ++ Ev.txt k7) ++ Ev.var k8) ++ Ev.txt k9))) := Lib.hid rfl
    clear HR0
    go_enter Tryd.func12, Tryd.ntmps12
    go_wp2_with fail
    refine (HR1.out _).mono ?_
    rintro e w1 ⟨rfl, hb1⟩
    simp only [World.size_alloc] at hb1
    rw [HR.out]
    have hz1 := hb1.size
    simp only [World.size_alloc] at hz1
    have hq : Bk w1 w.heap.size 24 _ := Bk.below (Bk.new w 24 #[.int .u8 k0, .int .i64 k1, .int .i64 k2, .int .u64 k3, .string k4, .int .u64 k5, .string k6, .string k7, .int .i64 k8, .string k9]) hb1 (by omega)
    have hlt : w.heap.size < w1.heap.size := by omega
    have hwr := u64_wrap k8 (by omega)
    have hw1 : IntKind.u8.wrap (k1 : Int) = k1 := by rw [IntKind.wrap_u8]; omega
    have hw2 : IntKind.u8.wrap (k2 : Int) = k2 := by rw [IntKind.wrap_u8]; omega
    have t0 : (Ev.threeS k0 k1 k2).size ≤ 3 := Nat.le_refl 3
    have s3 := Ev.size_var k3
    have s4 := Ev.size_txt k4
    have s5 := Ev.size_big k5
    have s6 := Ev.size_txt k6
    have s7 := Ev.size_txt k7
    have s8 := Ev.size_var k8
    have s9 := Ev.size_txt k9
    have HL : ∀ w', Bl w1 w' → Bk w' w.heap.size 24 _ := fun w' hw' => hq.below hw' hq.lt
    obtain ⟨c0, c1, c2, c3, c4, c5, c6, c7, c8, c9⟩ := hq.ten
    go_wp2_with fail
    clear c0 c1 c2 c3 c4 c5 c6 c7 c8 c9
    have hG : ∀ d v w2 w3, Ev.rpG w.heap.size k0 k1 k2 k3 k4 k5 k6 k7 k8 k9 d v w2 → Bl w1 w3 → Below w2.heap.size w2 w3 → Ev.rpG w.heap.size k0 k1 k2 k3 k4 k5 k6 k7 k8 k9 d v w3 := fun d v w2 w3 h _ hb => Ev.rpG_keep _ _ _ _ _ _ _ _ _ _ _ d v w2 w3 h hb
    refine Mono.wp_fill (C := Bl w1) (G := Ev.rpG w.heap.size k0 k1 k2 k3 k4 k5 k6 k7 k8 k9) [8, 9, 10, 11, 12, 13, 14, 15, 16, 17, 18, 19, 20, 21, 22, 23, 24, 25, 26, 27, 28, 29, 30, 31, 32, 33, 34, 35, 36, 37, 38, 39, 40, 41, 42, 43, 44, 45, 46, 4] (by kernel_rfl) (by kernel_rfl) hG 51 rfl (by kernel_rfl) rfl (below_drew1 w1) ?_ ?_
    · refine List.forall_mem_cons.2 ⟨?_, ?_⟩
      · -- slot 8
        refine Mono.step_value (.pointer (some ⟨w.heap.size, 0, none⟩)) rfl (fun _ => rfl) (fun a w2 hC H H0 => ?_)
        have e1 : a.eval (.tmp 1) = .pointer (some ⟨w.heap.size, 0, none⟩) := H0 1 (by decide +kernel)
        simp only [execOp, eval_const, e1]
        go_simp
      refine List.forall_mem_cons.2 ⟨?_, ?_⟩
      · -- slot 9
        refine Mono.step_value (.int .u8 k0) rfl (fun _ => rfl) (fun a w2 hC H H0 => ?_)
        have e8 : a.eval (.tmp 8) = .pointer (some ⟨w.heap.size, 0, none⟩) := H 8 (by decide +kernel)
        obtain ⟨c0, c1, c2, c3, c4, c5, c6, c7, c8, c9⟩ := (HL w2 hC).ten
        simp only [execOp, eval_const, e8]
        go_simp
      refine List.forall_mem_cons.2 ⟨?_, ?_⟩
      · -- slot 10
        refine Mono.step_value (.pointer (some ⟨w.heap.size, 1, none⟩)) rfl (fun _ => rfl) (fun a w2 hC H H0 => ?_)
        have e1 : a.eval (.tmp 1) = .pointer (some ⟨w.heap.size, 0, none⟩) := H0 1 (by decide +kernel)
        simp only [execOp, eval_const, e1]
        go_simp
      refine List.forall_mem_cons.2 ⟨?_, ?_⟩
      · -- slot 11
        refine Mono.step_value (.int .i64 k1) rfl (fun _ => rfl) (fun a w2 hC H H0 => ?_)
        have e10 : a.eval (.tmp 10) = .pointer (some ⟨w.heap.size, 1, none⟩) := H 10 (by decide +kernel)
        obtain ⟨c0, c1, c2, c3, c4, c5, c6, c7, c8, c9⟩ := (HL w2 hC).ten
        simp only [execOp, eval_const, e10]
        go_simp
      refine List.forall_mem_cons.2 ⟨?_, ?_⟩
      · -- slot 12
        refine Mono.step_value (.int .u8 k1) rfl (fun _ => rfl) (fun a w2 hC H H0 => ?_)
        have e11 : a.eval (.tmp 11) = .int .i64 k1 := H 11 (by decide +kernel)
        simp only [execOp, eval_const, e11]
        go_simp
      refine List.forall_mem_cons.2 ⟨?_, ?_⟩
      · -- slot 13
        refine Mono.step_value (.pointer (some ⟨w.heap.size, 2, none⟩)) rfl (fun _ => rfl) (fun a w2 hC H H0 => ?_)
        have e1 : a.eval (.tmp 1) = .pointer (some ⟨w.heap.size, 0, none⟩) := H0 1 (by decide +kernel)
        simp only [execOp, eval_const, e1]
        go_simp
      refine List.forall_mem_cons.2 ⟨?_, ?_⟩
      · -- slot 14
        refine Mono.step_value (.int .i64 k2) rfl (fun _ => rfl) (fun a w2 hC H H0 => ?_)
        have e13 : a.eval (.tmp 13) = .pointer (some ⟨w.heap.size, 2, none⟩) := H 13 (by decide +kernel)
        obtain ⟨c0, c1, c2, c3, c4, c5, c6, c7, c8, c9⟩ := (HL w2 hC).ten
        simp only [execOp, eval_const, e13]
        go_simp
      refine List.forall_mem_cons.2 ⟨?_, ?_⟩
      · -- slot 15
        refine Mono.step_value (.int .u8 k2) rfl (fun _ => rfl) (fun a w2 hC H H0 => ?_)
        have e14 : a.eval (.tmp 14) = .int .i64 k2 := H 14 (by decide +kernel)
        simp only [execOp, eval_const, e14]
        go_simp
      refine List.forall_mem_cons.2 ⟨?_, ?_⟩
      · -- slot 16
        intro a w2 hC H H0
        have e9 : a.eval (.tmp 9) = .int .u8 k0 := H 9 (by decide +kernel)
        have e12 : a.eval (.tmp 12) = .int .u8 k1 := H 12 (by decide +kernel)
        have e15 : a.eval (.tmp 15) = .int .u8 k2 := H 15 (by decide +kernel)
        have n9 : a.tmps[9]?.getD undef = .int .u8 k0 := by simpa [Act.eval] using e9
        have n12 : a.tmps[12]?.getD undef = .int .u8 k1 := by simpa [Act.eval] using e12
        have n15 : a.tmps[15]?.getD undef = .int .u8 k2 := by simpa [Act.eval] using e15
        refine Oper.wp_mono (K := fun a' w' => a' = a.put (some 16) (.slice (some ⟨w2.heap.size, 0, none⟩) 3 3) ∧ w' = w2.alloc (.cells #[.int .u8 k0, .int .u8 k1, .int .u8 k2] 5)) ?_ ?_
        · rintro _ _ ⟨rfl, rfl⟩
          exact ⟨_, rfl, fun d hd => by cases hd; unfold Ev.rpG; rw [if_pos rfl]; exact ⟨_, rfl, Bk.new w2 5 _⟩, hC.alloc hC.size _, (Below.refl _ _).alloc (Nat.le_refl _) _⟩
        · unfold Oper.wp
          simp only [execOp, e9, e12, e15]
          go_simp
      refine List.forall_mem_cons.2 ⟨?_, ?_⟩
      · -- slot 17
        refine Mono.step_value (.string (Ev.threeS k0 k1 k2)) rfl (fun _ => rfl) (fun a w2 hC H H0 => ?_)
        obtain ⟨bb, e16, hbb⟩ : ∃ b, a.eval (.tmp 16) = .slice (some ⟨b, 0, none⟩) 3 3 ∧ Bk w2 b 5 #[.int .u8 k0, .int .u8 k1, .int .u8 k2] := H 16 (by decide +kernel)
        have hrun := Ev.run_three_bk g1 (by omega) (by omega) hbb
        simp only [execOp, e16]
        go_simp
      refine List.forall_mem_cons.2 ⟨?_, ?_⟩
      · -- slot 18
        refine Mono.step_value (.pointer (some ⟨w.heap.size, 3, none⟩)) rfl (fun _ => rfl) (fun a w2 hC H H0 => ?_)
        have e1 : a.eval (.tmp 1) = .pointer (some ⟨w.heap.size, 0, none⟩) := H0 1 (by decide +kernel)
        simp only [execOp, eval_const, e1]
        go_simp
      refine List.forall_mem_cons.2 ⟨?_, ?_⟩
      · -- slot 19
        refine Mono.step_value (.int .u64 k3) rfl (fun _ => rfl) (fun a w2 hC H H0 => ?_)
        have e18 : a.eval (.tmp 18) = .pointer (some ⟨w.heap.size, 3, none⟩) := H 18 (by decide +kernel)
        obtain ⟨c0, c1, c2, c3, c4, c5, c6, c7, c8, c9⟩ := (HL w2 hC).ten
        simp only [execOp, eval_const, e18]
        go_simp
      refine List.forall_mem_cons.2 ⟨?_, ?_⟩
      · -- slot 20
        refine Mono.step_call (.string (Ev.varS k3)) rfl (fun _ => rfl) _ _ (fun w2 w3 h hb => bl_join h hb) (fun w2 h => (number_s _ (by omega) w2)) (fun a w2 hC H H0 => ?_)
        have e19 : a.eval (.tmp 19) = .int .u64 k3 := H 19 (by decide +kernel)
        simp only [execOp, eval_const, e19]
        go_simp
        simpa [Act.eval] using e19
      refine List.forall_mem_cons.2 ⟨?_, ?_⟩
      · -- slot 21
        refine Mono.step_value (.string ((Ev.threeS k0 k1 k2) ++ (Ev.varS k3))) rfl (fun _ => rfl) (fun a w2 hC H H0 => ?_)
        have e17 : a.eval (.tmp 17) = .string (Ev.threeS k0 k1 k2) := H 17 (by decide +kernel)
        have e20 : a.eval (.tmp 20) = .string (Ev.varS k3) := H 20 (by decide +kernel)
        simp only [execOp, eval_const, e17, e20]
        go_simp
        try simp only [ByteArray.size_append]
        omega
      refine List.forall_mem_cons.2 ⟨?_, ?_⟩
      · -- slot 22
        refine Mono.step_value (.pointer (some ⟨w.heap.size, 4, none⟩)) rfl (fun _ => rfl) (fun a w2 hC H H0 => ?_)
        have e1 : a.eval (.tmp 1) = .pointer (some ⟨w.heap.size, 0, none⟩) := H0 1 (by decide +kernel)
        simp only [execOp, eval_const, e1]
        go_simp
      refine List.forall_mem_cons.2 ⟨?_, ?_⟩
      · -- slot 23
        refine Mono.step_value (.string k4) rfl (fun _ => rfl) (fun a w2 hC H H0 => ?_)
        have e22 : a.eval (.tmp 22) = .pointer (some ⟨w.heap.size, 4, none⟩) := H 22 (by decide +kernel)
        obtain ⟨c0, c1, c2, c3, c4, c5, c6, c7, c8, c9⟩ := (HL w2 hC).ten
        simp only [execOp, eval_const, e22]
        go_simp
      refine List.forall_mem_cons.2 ⟨?_, ?_⟩
      · -- slot 24
        refine Mono.step_call (.string (Ev.txtS k4)) rfl (fun _ => rfl) _ _ (fun w2 w3 h hb => bl_join h hb) (fun w2 h => (rtext_s _ (by omega) w2)) (fun a w2 hC H H0 => ?_)
        have e23 : a.eval (.tmp 23) = .string k4 := H 23 (by decide +kernel)
        simp only [execOp, eval_const, e23]
        go_simp
        simpa [Act.eval] using e23
      refine List.forall_mem_cons.2 ⟨?_, ?_⟩
      · -- slot 25
        refine Mono.step_value (.string (((Ev.threeS k0 k1 k2) ++ (Ev.varS k3)) ++ (Ev.txtS k4))) rfl (fun _ => rfl) (fun a w2 hC H H0 => ?_)
        have e21 : a.eval (.tmp 21) = .string ((Ev.threeS k0 k1 k2) ++ (Ev.varS k3)) := H 21 (by decide +kernel)
        have e24 : a.eval (.tmp 24) = .string (Ev.txtS k4) := H 24 (by decide +kernel)
        simp only [execOp, eval_const, e21, e24]
        go_simp
        try simp only [ByteArray.size_append]
        omega
      refine List.forall_mem_cons.2 ⟨?_, ?_⟩
      · -- slot 26
        refine Mono.step_value (.pointer (some ⟨w.heap.size, 5, none⟩)) rfl (fun _ => rfl) (fun a w2 hC H H0 => ?_)
        have e1 : a.eval (.tmp 1) = .pointer (some ⟨w.heap.size, 0, none⟩) := H0 1 (by decide +kernel)
        simp only [execOp, eval_const, e1]
        go_simp
      refine List.forall_mem_cons.2 ⟨?_, ?_⟩
      · -- slot 27
        refine Mono.step_value (.int .u64 k5) rfl (fun _ => rfl) (fun a w2 hC H H0 => ?_)
        have e26 : a.eval (.tmp 26) = .pointer (some ⟨w.heap.size, 5, none⟩) := H 26 (by decide +kernel)
        obtain ⟨c0, c1, c2, c3, c4, c5, c6, c7, c8, c9⟩ := (HL w2 hC).ten
        simp only [execOp, eval_const, e26]
        go_simp
      refine List.forall_mem_cons.2 ⟨?_, ?_⟩
      · -- slot 28
        refine Mono.step_call (.string (Ev.bigS k5)) rfl (fun _ => rfl) _ _ (fun w2 w3 h hb => bl_join h hb) (fun w2 h => (high_s _ (by omega) w2)) (fun a w2 hC H H0 => ?_)
        have e27 : a.eval (.tmp 27) = .int .u64 k5 := H 27 (by decide +kernel)
        simp only [execOp, eval_const, e27]
        go_simp
        simpa [Act.eval] using e27
      refine List.forall_mem_cons.2 ⟨?_, ?_⟩
      · -- slot 29
        refine Mono.step_value (.string ((((Ev.threeS k0 k1 k2) ++ (Ev.varS k3)) ++ (Ev.txtS k4)) ++ (Ev.bigS k5))) rfl (fun _ => rfl) (fun a w2 hC H H0 => ?_)
        have e25 : a.eval (.tmp 25) = .string (((Ev.threeS k0 k1 k2) ++ (Ev.varS k3)) ++ (Ev.txtS k4)) := H 25 (by decide +kernel)
        have e28 : a.eval (.tmp 28) = .string (Ev.bigS k5) := H 28 (by decide +kernel)
        simp only [execOp, eval_const, e25, e28]
        go_simp
        try simp only [ByteArray.size_append]
        omega
      refine List.forall_mem_cons.2 ⟨?_, ?_⟩
      · -- slot 30
        refine Mono.step_value (.pointer (some ⟨w.heap.size, 6, none⟩)) rfl (fun _ => rfl) (fun a w2 hC H H0 => ?_)
        have e1 : a.eval (.tmp 1) = .pointer (some ⟨w.heap.size, 0, none⟩) := H0 1 (by decide +kernel)
        simp only [execOp, eval_const, e1]
        go_simp
      refine List.forall_mem_cons.2 ⟨?_, ?_⟩
      · -- slot 31
        refine Mono.step_value (.string k6) rfl (fun _ => rfl) (fun a w2 hC H H0 => ?_)
        have e30 : a.eval (.tmp 30) = .pointer (some ⟨w.heap.size, 6, none⟩) := H 30 (by decide +kernel)
        obtain ⟨c0, c1, c2, c3, c4, c5, c6, c7, c8, c9⟩ := (HL w2 hC).ten
        simp only [execOp, eval_const, e30]
        go_simp
      refine List.forall_mem_cons.2 ⟨?_, ?_⟩
      · -- slot 32
        refine Mono.step_call (.string (Ev.txtS k6)) rfl (fun _ => rfl) _ _ (fun w2 w3 h hb => bl_join h hb) (fun w2 h => (rtext_s _ (by omega) w2)) (fun a w2 hC H H0 => ?_)
        have e31 : a.eval (.tmp 31) = .string k6 := H 31 (by decide +kernel)
        simp only [execOp, eval_const, e31]
        go_simp
        simpa [Act.eval] using e31
      refine List.forall_mem_cons.2 ⟨?_, ?_⟩
      · -- slot 33
        refine Mono.step_value (.string (((((Ev.threeS k0 k1 k2) ++ (Ev.varS k3)) ++ (Ev.txtS k4)) ++ (Ev.bigS k5)) ++ (Ev.txtS k6))) rfl (fun _ => rfl) (fun a w2 hC H H0 => ?_)
        have e29 : a.eval (.tmp 29) = .string ((((Ev.threeS k0 k1 k2) ++ (Ev.varS k3)) ++ (Ev.txtS k4)) ++ (Ev.bigS k5)) := H 29 (by decide +kernel)
        have e32 : a.eval (.tmp 32) = .string (Ev.txtS k6) := H 32 (by decide +kernel)
        simp only [execOp, eval_const, e29, e32]
        go_simp
        try simp only [ByteArray.size_append]
        omega
      refine List.forall_mem_cons.2 ⟨?_, ?_⟩
      · -- slot 34
        refine Mono.step_value (.pointer (some ⟨w.heap.size, 7, none⟩)) rfl (fun _ => rfl) (fun a w2 hC H H0 => ?_)
        have e1 : a.eval (.tmp 1) = .pointer (some ⟨w.heap.size, 0, none⟩) := H0 1 (by decide +kernel)
        simp only [execOp, eval_const, e1]
        go_simp
      refine List.forall_mem_cons.2 ⟨?_, ?_⟩
      · -- slot 35
        refine Mono.step_value (.string k7) rfl (fun _ => rfl) (fun a w2 hC H H0 => ?_)
        have e34 : a.eval (.tmp 34) = .pointer (some ⟨w.heap.size, 7, none⟩) := H 34 (by decide +kernel)
        obtain ⟨c0, c1, c2, c3, c4, c5, c6, c7, c8, c9⟩ := (HL w2 hC).ten
        simp only [execOp, eval_const, e34]
        go_simp
      refine List.forall_mem_cons.2 ⟨?_, ?_⟩
      · -- slot 36
        refine Mono.step_call (.string (Ev.txtS k7)) rfl (fun _ => rfl) _ _ (fun w2 w3 h hb => bl_join h hb) (fun w2 h => (rtext_s _ (by omega) w2)) (fun a w2 hC H H0 => ?_)
        have e35 : a.eval (.tmp 35) = .string k7 := H 35 (by decide +kernel)
        simp only [execOp, eval_const, e35]
        go_simp
        simpa [Act.eval] using e35
      refine List.forall_mem_cons.2 ⟨?_, ?_⟩
      · -- slot 37
        refine Mono.step_value (.string ((((((Ev.threeS k0 k1 k2) ++ (Ev.varS k3)) ++ (Ev.txtS k4)) ++ (Ev.bigS k5)) ++ (Ev.txtS k6)) ++ (Ev.txtS k7))) rfl (fun _ => rfl) (fun a w2 hC H H0 => ?_)
        have e33 : a.eval (.tmp 33) = .string (((((Ev.threeS k0 k1 k2) ++ (Ev.varS k3)) ++ (Ev.txtS k4)) ++ (Ev.bigS k5)) ++ (Ev.txtS k6)) := H 33 (by decide +kernel)
        have e36 : a.eval (.tmp 36) = .string (Ev.txtS k7) := H 36 (by decide +kernel)
        simp only [execOp, eval_const, e33, e36]
        go_simp
        try simp only [ByteArray.size_append]
        omega
      refine List.forall_mem_cons.2 ⟨?_, ?_⟩
      · -- slot 38
        refine Mono.step_value (.pointer (some ⟨w.heap.size, 8, none⟩)) rfl (fun _ => rfl) (fun a w2 hC H H0 => ?_)
        have e1 : a.eval (.tmp 1) = .pointer (some ⟨w.heap.size, 0, none⟩) := H0 1 (by decide +kernel)
        simp only [execOp, eval_const, e1]
        go_simp
      refine List.forall_mem_cons.2 ⟨?_, ?_⟩
      · -- slot 39
        refine Mono.step_value (.int .i64 k8) rfl (fun _ => rfl) (fun a w2 hC H H0 => ?_)
        have e38 : a.eval (.tmp 38) = .pointer (some ⟨w.heap.size, 8, none⟩) := H 38 (by decide +kernel)
        obtain ⟨c0, c1, c2, c3, c4, c5, c6, c7, c8, c9⟩ := (HL w2 hC).ten
        simp only [execOp, eval_const, e38]
        go_simp
      refine List.forall_mem_cons.2 ⟨?_, ?_⟩
      · -- slot 40
        refine Mono.step_value (.int .u64 k8) rfl (fun _ => rfl) (fun a w2 hC H H0 => ?_)
        have e39 : a.eval (.tmp 39) = .int .i64 k8 := H 39 (by decide +kernel)
        simp only [execOp, eval_const, e39]
        go_simp
      refine List.forall_mem_cons.2 ⟨?_, ?_⟩
      · -- slot 41
        refine Mono.step_call (.string (Ev.varS k8)) rfl (fun _ => rfl) _ _ (fun w2 w3 h hb => bl_join h hb) (fun w2 h => (number_s _ (by omega) w2)) (fun a w2 hC H H0 => ?_)
        have e40 : a.eval (.tmp 40) = .int .u64 k8 := H 40 (by decide +kernel)
        simp only [execOp, eval_const, e40]
        go_simp
        simpa [Act.eval] using e40
      refine List.forall_mem_cons.2 ⟨?_, ?_⟩
      · -- slot 42
        refine Mono.step_value (.string (((((((Ev.threeS k0 k1 k2) ++ (Ev.varS k3)) ++ (Ev.txtS k4)) ++ (Ev.bigS k5)) ++ (Ev.txtS k6)) ++ (Ev.txtS k7)) ++ (Ev.varS k8))) rfl (fun _ => rfl) (fun a w2 hC H H0 => ?_)
        have e37 : a.eval (.tmp 37) = .string ((((((Ev.threeS k0 k1 k2) ++ (Ev.varS k3)) ++ (Ev.txtS k4)) ++ (Ev.bigS k5)) ++ (Ev.txtS k6)) ++ (Ev.txtS k7)) := H 37 (by decide +kernel)
        have e41 : a.eval (.tmp 41) = .string (Ev.varS k8) := H 41 (by decide +kernel)
        simp only [execOp, eval_const, e37, e41]
        go_simp
        try simp only [ByteArray.size_append]
        omega
      refine List.forall_mem_cons.2 ⟨?_, ?_⟩
      · -- slot 43
        refine Mono.step_value (.pointer (some ⟨w.heap.size, 9, none⟩)) rfl (fun _ => rfl) (fun a w2 hC H H0 => ?_)
        have e1 : a.eval (.tmp 1) = .pointer (some ⟨w.heap.size, 0, none⟩) := H0 1 (by decide +kernel)
        simp only [execOp, eval_const, e1]
        go_simp
      refine List.forall_mem_cons.2 ⟨?_, ?_⟩
      · -- slot 44
        refine Mono.step_value (.string k9) rfl (fun _ => rfl) (fun a w2 hC H H0 => ?_)
        have e43 : a.eval (.tmp 43) = .pointer (some ⟨w.heap.size, 9, none⟩) := H 43 (by decide +kernel)
        obtain ⟨c0, c1, c2, c3, c4, c5, c6, c7, c8, c9⟩ := (HL w2 hC).ten
        simp only [execOp, eval_const, e43]
        go_simp
      refine List.forall_mem_cons.2 ⟨?_, ?_⟩
      · -- slot 45
        refine Mono.step_call (.string (Ev.txtS k9)) rfl (fun _ => rfl) _ _ (fun w2 w3 h hb => bl_join h hb) (fun w2 h => (rtext_s _ (by omega) w2)) (fun a w2 hC H H0 => ?_)
        have e44 : a.eval (.tmp 44) = .string k9 := H 44 (by decide +kernel)
        simp only [execOp, eval_const, e44]
        go_simp
        simpa [Act.eval] using e44
      refine List.forall_mem_cons.2 ⟨?_, ?_⟩
      · -- slot 46
        refine Mono.step_value (.string ((((((((Ev.threeS k0 k1 k2) ++ (Ev.varS k3)) ++ (Ev.txtS k4)) ++ (Ev.bigS k5)) ++ (Ev.txtS k6)) ++ (Ev.txtS k7)) ++ (Ev.varS k8)) ++ (Ev.txtS k9))) rfl (fun _ => rfl) (fun a w2 hC H H0 => ?_)
        have e42 : a.eval (.tmp 42) = .string (((((((Ev.threeS k0 k1 k2) ++ (Ev.varS k3)) ++ (Ev.txtS k4)) ++ (Ev.bigS k5)) ++ (Ev.txtS k6)) ++ (Ev.txtS k7)) ++ (Ev.varS k8)) := H 42 (by decide +kernel)
        have e45 : a.eval (.tmp 45) = .string (Ev.txtS k9) := H 45 (by decide +kernel)
        simp only [execOp, eval_const, e42, e45]
        go_simp
        try simp only [ByteArray.size_append]
        omega
      refine List.forall_mem_cons.2 ⟨?_, ?_⟩
      · -- slot 4
        refine Mono.step_value (.string ((((((((Ev.threeS k0 k1 k2) ++ (Ev.varS k3)) ++ (Ev.txtS k4)) ++ (Ev.bigS k5)) ++ (Ev.txtS k6)) ++ (Ev.txtS k7)) ++ (Ev.varS k8)) ++ (Ev.txtS k9))) rfl (fun _ => rfl) (fun a w2 hC H H0 => ?_)
        have e46 : a.eval (.tmp 46) = .string ((((((((Ev.threeS k0 k1 k2) ++ (Ev.varS k3)) ++ (Ev.txtS k4)) ++ (Ev.bigS k5)) ++ (Ev.txtS k6)) ++ (Ev.txtS k7)) ++ (Ev.varS k8)) ++ (Ev.txtS k9)) := H 46 (by decide +kernel)
        simp only [execOp, eval_const, e46]
        go_simp
      exact fun o ho => by cases ho
    · intro vals w2 hC hg
      have v4 : vals 4 = .string ((((((((Ev.threeS k0 k1 k2) ++ (Ev.varS k3)) ++ (Ev.txtS k4)) ++ (Ev.bigS k5)) ++ (Ev.txtS k6)) ++ (Ev.txtS k7)) ++ (Ev.varS k8)) ++ (Ev.txtS k9)) := hg 4 (by decide)
      clear hg
      have hz4 : (((((((((Ev.threeS k0 k1 k2) ++ (Ev.varS k3)) ++ (Ev.txtS k4)) ++ (Ev.bigS k5)) ++ (Ev.txtS k6)) ++ (Ev.txtS k7)) ++ (Ev.varS k8)) ++ (Ev.txtS k9)) : ByteArray).size ≤ 30000 := by simp only [ByteArray.size_append]; omega
      generalize hS : (((((((((Ev.threeS k0 k1 k2) ++ (Ev.varS k3)) ++ (Ev.txtS k4)) ++ (Ev.bigS k5)) ++ (Ev.txtS k6)) ++ (Ev.txtS k7)) ++ (Ev.varS k8)) ++ (Ev.txtS k9)) : ByteArray) = S at v4 hz4
      have HS := Lib.hid hS
      clear hS
      unfold Mono.fill
      simp only [List.foldl]
      go_simp
      have hS4 : ∀ t : ByteArray, (⟨(Sm.le4 (Sm.crc t.data.toList)).toArray⟩ : ByteArray).size = 4 := fun t => rfl
      have hz5 : ∀ t : ByteArray, t.size ≤ 30000 → t.size + (⟨(Sm.le4 (Sm.crc t.data.toList)).toArray⟩ : ByteArray).size ≤ 9223372036854775807 := fun t ht => by rw [hS4]; omega
      have hz6 := hz5 S hz4
      clear hz5 hS4
      go_wp2_with fail
      refine (tail_any S (by unfold maxLen; omega) _).mono ?_
      rintro e w3 ⟨rfl, hb3⟩
      have hbF : Below w.heap.size w w3 := ((Below.refl w.heap.size w).alloc (Nat.le_refl _) _).trans ((hb1.mono (by omega)).trans ((hC.mono (by omega)).trans (hb3.mono (by have := hC.size; omega))))
      clear hb3 hC hb1
      go_wp2_with fail
      go_ret2
      refine ⟨?_, hbF⟩
      have hL : S.data.toList = Ev.head ⟨k0, k1, k2, k3, k4, k5, k6, k7, k8, k9⟩ := by
        rw [← HS.out]
        simp [Ev.head, Ev.threeS, Ev.varS, Ev.txtS, Ev.bigS]
      have hE : S ++ (⟨(Sm.le4 (Sm.crc S.data.toList)).toArray⟩ : ByteArray) = ⟨(Ev.bytes ⟨k0, k1, k2, k3, k4, k5, k6, k7, k8, k9⟩).toArray⟩ := Ev.ext_list (by rw [hL]; simp [Ev.bytes, hL])
      rw [hE]
      rfl
end Go.Proofs.YtjhejnhjpjmnmaaDoor
