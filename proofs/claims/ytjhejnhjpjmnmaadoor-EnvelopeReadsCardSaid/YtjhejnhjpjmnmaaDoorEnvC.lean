/- envelope.peer, right. -/
import Derived.Test.YtjhejnhjpjmnmaaDoorEnvB
set_option linter.unusedVariables false
namespace Go.Proofs.YtjhejnhjpjmnmaaDoor
open Go.RowKit
set_option maxHeartbeats 1000000 in
theorem peer_any (n : Int) (w : World) : Calls Tryd.prog 38 #[.int .i64 n] w fun e w' => e = .returned (.bool (Ev.peer n)) ∧ w = w' := by
  by_cases h1 : 0 ≤ n
  · by_cases h2 : n < 4
    · have HP : Hid (Ev.peer n = true) := Lib.hid (by unfold Ev.peer; simp [h1, h2])
      rw [HP.out]
      go_enter Tryd.func38, Tryd.ntmps38
      go_wp2_with fail
      go_ret
      exact ⟨rfl, rfl⟩
    · have HP : Hid (Ev.peer n = false) := Lib.hid (by unfold Ev.peer; simp [h2])
      rw [HP.out]
      go_enter Tryd.func38, Tryd.ntmps38
      go_wp2_with fail
      go_ret
      exact ⟨rfl, rfl⟩
  · have HP : Hid (Ev.peer n = false) := Lib.hid (by unfold Ev.peer; simp [h1])
    rw [HP.out]
    go_enter Tryd.func38, Tryd.ntmps38
    go_wp2_with fail
    go_ret
    exact ⟨rfl, rfl⟩
theorem ret_bool {a b : Bool} (h : a = b) : Ending.returned (.bool a) = Ending.returned (.bool b) := by rw [h]
theorem bcell' {W w1 : World} {n : Nat} (hb : Below n W w1) : (∀ b o, b < n → w1.cell? ⟨b, o, none⟩ = W.cell? ⟨b, o, none⟩) ∧ (∀ b o, b < n → w1.frozen? ⟨b, o, none⟩ = W.frozen? ⟨b, o, none⟩) :=
  ⟨fun b o h => hb.cell (p := ⟨b, o, none⟩) h, fun b o h => hb.frozen (p := ⟨b, o, none⟩) h⟩
theorem Tk.KW.any {w w' : World} {n : Nat} (h : Tk.KW w) (hb : Below n w w') (h0 : 0 < n) : Tk.KW w' :=
  ⟨Nat.lt_of_lt_of_le h.1 hb.size, fun j hj => (hb.cell (p := ⟨0, 0 + j, none⟩) h0).trans (h.2 j hj)⟩
set_option maxRecDepth 100000 in
set_option maxHeartbeats 4000000 in
theorem right_any (l : Ev.Letter) (w : World) (hk : Tk.KW w) :
    Calls Tryd.prog 19 #[l.val] w fun e w' => e = .returned (.bool (Ev.right l)) ∧ Below w.heap.size w w' := by
  obtain ⟨k0, k1, k2, k3, k4, k5, k6, k7, k8, k9⟩ := l
  unfold Ev.Letter.val
  go_enter Tryd.func19, Tryd.ntmps19
  go_wp2_with fail
  refine (peer_any _ _).mono ?_
  rintro e w1 ⟨rfl, rfl⟩
  go_wp2_with fail
  all_goals try ((with_reducible refine (peer_any _ _).mono ?_); rintro e w1 ⟨rfl, rfl⟩; go_wp2_with fail)
  all_goals try ((with_reducible refine (name_any k6 _ (hk.below ((Below.refl _ _).alloc (Nat.le_refl _) _))).mono ?_); rintro e w1 ⟨rfl, hb1⟩; simp only [World.size_alloc] at hb1; obtain ⟨hc, hf⟩ := bcell' hb1; go_wp2_with fail)
  all_goals try ((with_reducible refine (name_any k7 _ ((hk.below ((Below.refl _ _).alloc (Nat.le_refl _) _)).any hb1 (by omega))).mono ?_); rintro e w2 ⟨rfl, hb2⟩; have hz1 := hb1.size; simp only [World.size_alloc] at hz1; have hb12 := hb1.trans (hb2.mono hz1); obtain ⟨hc2, hf2⟩ := bcell' hb12; go_wp2_with fail)
  all_goals (go_ret; refine ⟨?_, ?_⟩)
  all_goals try exact (Below.refl w.heap.size w).alloc (Nat.le_refl _) _
  all_goals try exact ((Below.refl w.heap.size w).alloc (Nat.le_refl _) _).trans (hb1.mono (by omega))
  all_goals try exact ((Below.refl w.heap.size w).alloc (Nat.le_refl _) _).trans (hb12.mono (by omega))
  all_goals refine ret_bool ?_
  all_goals ((repeat (rename (∀ (a : Act) (w : World), Code.wp _ _ _ a w → _) => HKx; clear HKx)); (repeat (rename (Act → World → Prop) => HKx; clear HKx)); (repeat (rename (Exit → Act → World → Prop) => HKx; clear HKx)))
  all_goals (clear hk; simp only [Ev.right]; grind)
end Go.Proofs.YtjhejnhjpjmnmaaDoor
