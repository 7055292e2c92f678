import Derived.Test.YtdnfbkcfiiccjaaSumIter
set_option linter.unusedVariables false
namespace Go.Proofs.Ytdnfbkcfiiccjaa
open Go.RowKit Go.BigFrame Go.Shelf
attribute [local go_sem] Oper.semAt_some
/-- 'All(s)': the function literal over a box of s. -/
theorem all_any (s : ByteArray) (w : World) :
    Calls Try.prog 22 #[.string s] w fun e w' => e = .returned (.func (.func 28) #[] #[.pointer (some ⟨w.heap.size, 0, none⟩)]) ∧ w.alloc (.cells #[.string s] 9) = w' := by
  go_enter Try.func22, Try.ntmps22
  go_wp2
  go_ret
  exact ⟨rfl, rfl⟩
theorem cell_new_l (w : World) (v : Value) (t : TypeId) : (w.alloc (.cells #[v] t)).cell? ⟨w.heap.size, 0, none⟩ = some v ∧ (w.alloc (.cells #[v] t)).frozen? ⟨w.heap.size, 0, none⟩ = false :=
  ⟨by simp [go_sem], by simp [go_sem]⟩
theorem cell_alloc_l {w : World} {a : Addr} {v : Value} (o : Obj) (h : w.cell? a = some v) : (w.alloc o).cell? a = some v := by
  rw [World.cell?_alloc_lt w o a (block_lt_of_cell h)]; exact h
theorem frozen_alloc_l {w : World} {a : Addr} {v : Value} (o : Obj) (h : w.cell? a = some v) (hf : w.frozen? a = false) : (w.alloc o).frozen? a = false := by
  rw [← hf]
  exact ((Below.refl w.heap.size w).alloc (Nat.le_refl _) o).frozen (block_lt_of_cell h)
namespace Sm
def lens (l : List Body) : Nat := (l.map fun b => 8 + b.1.length).sum
theorem lens_snoc (l : List Body) (b : Body) : lens (l ++ [b]) = lens l + (8 + b.1.length) := by simp [lens]
theorem lens_le (l : List Body) : lens l ≤ l.length * 65544 := by
  induction l with
  | nil => simp [lens]
  | cons b l ih =>
    have e : lens (b :: l) = 8 + b.1.length + lens l := by simp [lens]
    have := b.2
    rw [e, List.length_cons, Nat.succ_mul]
    omega
end Sm
set_option maxRecDepth 100000 in
set_option maxHeartbeats 2000000 in
theorem whole_any (s : ByteArray) (hs : s.size ≤ 1048576) (m : Nat) (xs : List Sm.Body) (hx : Sm.Run s.data.toList 0 xs m) (w : World) :
    Calls Try.prog 20 #[.string s] w fun e w' => e = .returned (.int .i64 m) ∧ Below w.heap.size w w' := by
  have hm : m = Sm.lens xs := by have := (Sm.run_le (by omega) hx).2.2; rw [Nat.zero_add] at this; exact this
  have hxl : xs.length ≤ 1048576 := by
    have h1 := Sm.run_le (by omega) hx
    have h2 : s.data.toList.length = s.size := by simp
    omega
  refine (callsIn_wide (n := 5)).1 ?_
  refine callsIn_of_wp_marks Try.func20 rfl trivial ?_ rfl
  simp only [Try.ntmps20, List.size_toArray, List.length_cons, List.length_nil, Nat.reduceAdd, Nat.reduceSub, Array.replicate_succ, Array.replicate_zero, List.push_toArray, List.append_toArray, List.nil_append, List.cons_append]
  gi_wp2_with fail
  refine ⟨trivial, (callsIn_wide.2 (all_any _ _)).mono ?_⟩
  rintro e w' ⟨rfl, rfl⟩
  gi_wp2
  have c0 := cell_new_l w (.int .i64 0) 3
  have c1 := cell_new_l (w.alloc (.cells #[.int .i64 0] 3)) (.string s) 9
  rw [World.size_alloc] at c1
  have hB0 : Below w.heap.size w ((w.alloc (.cells #[.int .i64 0] 3)).alloc (.cells #[.string s] 9)) := ((Below.refl _ w).alloc (Nat.le_refl _) _).alloc (by simp) _
  refine wpIn_rangeFunc_ownF rfl (by omega) (gf := 28) (lb := #[.pointer (some ⟨w.heap.size + 1, 0, none⟩)]) rfl trivial (enters_of Try.func28 (by kernel_rfl) rfl)
    (all1_stops _ (by omega) s hs m xs hx (w.heap.size + 1) w.heap.size _ (by simp; omega) (by simp) c1.1 1048576 hxl) keepBox_t (keepBox_b (by simp; omega) (by simp)) (Below.refl _ _) (fun _ => rfl)
    (fun pre W => (W.cell? ⟨w.heap.size, 0, none⟩ = some (.int .i64 (Sm.lens pre)) ∧ W.frozen? ⟨w.heap.size, 0, none⟩ = false) ∧ Below w.heap.size w W)
    (fun _ _ _ => False)
    (OwnFrom.and (Own.from (fun s A B row hs hg hr => ⟨cell_kept hs.1 hg hr, (frozen_kept hs.1 hg hr).trans hs.2⟩) _) (ownFrom_below (Nat.le_refl _) (by simp; omega)))
    (fun _ _ _ _ _ hs _ _ => hs)
    ⟨⟨cell_alloc_l _ c0.1, frozen_alloc_l _ c0.1 c0.2⟩, hB0⟩
    (fun x => { tmps := #[.string s, undef, .int .i64 0, .pointer (some ⟨w.heap.size, 0, none⟩), .string ⟨x.1.toArray⟩, .string s, .func (.func 28) #[] #[.pointer (some ⟨w.heap.size + 1, 0, none⟩)], .string ⟨x.1.toArray⟩, undef, undef, undef, undef, undef, undef], defers := [] }) ?assign ?body ?done ?stop
  case assign =>
    intro l x W K hK
    gi_wp2
    exact hK
  case body =>
    rintro l pre x W ⟨⟨hc, hf⟩, hB⟩ hpl
    have h1 := Sm.lens_le pre
    have h2 := x.2
    have hL : Sm.lens pre ≤ 68727865344 := by
      have : pre.length * 65544 ≤ 1048576 * 65544 := Nat.mul_le_mul_right _ (by omega)
      omega
    clear h1
    gi_wp2
    refine ⟨KeepsOthers.setCell _ _ _, ⟨(Below.refl w.heap.size W).setCell (p := ⟨w.heap.size, 0, none⟩) (Nat.le_refl _) _, fun h => ?_⟩, ⟨?_, by rw [World.frozen?_setCell]; exact hf⟩, hB.setCell (p := ⟨w.heap.size, 0, none⟩) (Nat.le_refl _) _⟩
    · rw [World.cell?_setCell_other _ _ _ _ (by intro e; injection e with e1; omega)]; exact h
    · rw [World.cell?_setCell_same' _ _ _ (by rw [hc]; rfl), Sm.lens_snoc]
      rfl
  case done =>
    rintro D ys W hD rfl ⟨⟨hc, _⟩, hB⟩ hK
    gi_wp2
    refine ⟨by simp, .inl ⟨_, _, rfl, run_takeDeferred hK, ?_⟩⟩
    exact ⟨_, results_tmp rfl _ _ _, by rw [hm]; rfl, hB.trans (belowK_b (w := w) (Nat.le_refl _) W D _ _ (by simp at hD; omega) hK rfl rfl)⟩
  case stop =>
    rintro D c pre W _ _ h _
    exact h.elim
end Go.Proofs.Ytdnfbkcfiiccjaa
