/- EnvelopePacks: a letter's bytes, the program's and the document's. -/
import Derived.Test.YtjhejnhjpjmnmaaDoorEnvQ2
set_option linter.unusedVariables false
namespace Go.Proofs.YtjhejnhjpjmnmaaDoor
open Go.RowKit
set_option maxRecDepth 100000 in
set_option maxHeartbeats 8000000 in
theorem packs_walk (l : Ev.Letter) (h0 : l.ok) (hx : (Lit.int .i64 l.from_).wf = true) (hy : (Lit.int .i64 l.to_).wf = true) (hz : (Lit.int .i64 l.code).wf = true)
    (hs : l.key.size ≤ maxLen) (hu : l.svc.size ≤ maxLen) (hm : l.mth.size ≤ maxLen) (hb : l.body.size ≤ maxLen) (w : World) (hk : Tk.KW w) :
    Calls Tryd.prog 3 #[l.val] w fun e w' => e = .returned (.bool true) ∧ Below w.heap.size w w' := by
  have HG := Lib.hid (fun w' => great_any l w')
  clear hx hy hz hs hu hm hb
  cases hg : Ev.great l with
  | true =>
    rw [hg] at HG
    obtain ⟨k0, k1, k2, k3, k4, k5, k6, k7, k8, k9⟩ := l
    clear h0 hg
    unfold Ev.Letter.val at HG ⊢
    go_enter Tryd.func3, Tryd.ntmps3
    go_wp2_with fail
    refine (HG.out _).mono ?_
    rintro e w1 ⟨rfl, hb1⟩
    have hbA : Below w.heap.size w w1 := ((Below.refl w.heap.size w).alloc (Nat.le_refl _) _).trans (hb1.mono (by simp))
    clear hb1
    go_wp2_with fail
    refine (wakes_any _ (hk.below hbA)).mono ?_
    rintro e w2 ⟨rfl, hb2⟩
    go_wp2_with fail
    go_ret
    exact ⟨rfl, bl_join hbA hb2⟩
  | false =>
    rw [hg] at HG
    obtain ⟨z4, z6, z7, z9⟩ := Ev.great_no hg
    clear hg
    have HP := pack_any l h0 ⟨by omega, by omega⟩
    have HQ := rpack_any l h0 ⟨by omega, by omega⟩
    generalize Ev.pack l = P at HP HQ
    obtain ⟨P1, P2⟩ := P
    obtain ⟨k0, k1, k2, k3, k4, k5, k6, k7, k8, k9⟩ := l
    clear h0 z4 z6 z7 z9
    unfold Ev.Letter.val at HG HP HQ ⊢
    replace HP := Lib.hid HP
    replace HQ := Lib.hid HQ
    go_enter Tryd.func3, Tryd.ntmps3
    go_wp2_with fail
    refine (HG.out _).mono ?_
    rintro e w1 ⟨rfl, hb1⟩
    have hbA : Below w.heap.size w w1 := ((Below.refl w.heap.size w).alloc (Nat.le_refl _) _).trans (hb1.mono (by simp))
    have hq : Bk w1 w.heap.size 24 #[.int .u8 k0, .int .i64 k1, .int .i64 k2, .int .u64 k3, .string k4, .int .u64 k5, .string k6, .string k7, .int .i64 k8, .string k9] := (Bk.new w 24 #[.int .u8 k0, .int .i64 k1, .int .i64 k2, .int .u64 k3, .string k4, .int .u64 k5, .string k6, .string k7, .int .i64 k8, .string k9]).below hb1 (by simp)
    clear hb1 HG
    obtain ⟨c0, c1, c2, c3, c4, c5, c6, c7, c8, c9⟩ := hq.ten
    go_wp2_with fail
    refine (HP.out _ (hk.below hbA)).mono ?_
    rintro e w2 ⟨rfl, hb2⟩
    have hbB := bl_join hbA hb2
    have hq2 := hq.below hb2 hq.lt
    clear hb2 hbA c0 c1 c2 c3 c4 c5 c6 c7 c8 c9 hq HP
    obtain ⟨c0, c1, c2, c3, c4, c5, c6, c7, c8, c9⟩ := hq2.ten
    go_wp2_with fail
    refine (HQ.out _).mono ?_
    rintro e w3 ⟨rfl, hb3⟩
    have hbC := bl_join hbB hb3
    clear hb3 hbB c0 c1 c2 c3 c4 c5 c6 c7 c8 c9 hq2 HQ
    go_wp2_with fail
    refine (wakes_any _ (hk.below hbC)).mono ?_
    rintro e w4 ⟨rfl, hb4⟩
    have hbD := bl_join hbC hb4
    clear hb4 hbC
    go_wp2_with fail
    go_ret
    exact ⟨rfl, hbD⟩
end Go.Proofs.YtjhejnhjpjmnmaaDoor
