/- redressref14: num, word, words (printed by gen_prnr.py). No condition but the ones the theorems state. -/
import Derived.Test.YtmncppnpppdfkaaDoorPrnC
import Derived.Test.YtmncppnpppdfkaaDoorChkR8
set_option linter.unusedVariables false
set_option linter.unusedSimpArgs false
namespace Go.Proofs.YtmncppnpppdfkaaDoor
open Go.RowKit Go.BigFrame
set_option maxRecDepth 100000 in
set_option maxHeartbeats 4000000 in
theorem rword_any (k : Nat) (nm : ByteArray) (w : World) :
    Calls Tryd.prog 52 #[.agg #[.int .u8 k, .string nm]] w fun e w' => e = .returned (.string (Prn.sortW ⟨k, nm⟩)) ∧ Below w.heap.size w w' := by
  have hb := (Below.refl w.heap.size w).alloc (Nat.le_refl _) (.cells #[.int .u8 k, .string nm] 38)
  by_cases h1 : k = 1
  · subst h1
    go_enter Tryd.func52, Tryd.ntmps52
    go_wp2_with fail
    go_ret
    exact ⟨rfl, hb⟩
  have t1 : ((k : Int) == 1) = false := by rw [beq_eq_false_iff_ne]; omega
  by_cases h2 : k = 2
  · subst h2
    go_enter Tryd.func52, Tryd.ntmps52
    go_wp2_with fail
    go_ret
    exact ⟨rfl, hb⟩
  have t2 : ((k : Int) == 2) = false := by rw [beq_eq_false_iff_ne]; omega
  by_cases h3 : k = 3
  · subst h3
    go_enter Tryd.func52, Tryd.ntmps52
    go_wp2_with fail
    go_ret
    exact ⟨rfl, hb⟩
  have t3 : ((k : Int) == 3) = false := by rw [beq_eq_false_iff_ne]; omega
  by_cases h4 : k = 4
  · subst h4
    go_enter Tryd.func52, Tryd.ntmps52
    go_wp2_with fail
    go_ret
    exact ⟨rfl, hb⟩
  have t4 : ((k : Int) == 4) = false := by rw [beq_eq_false_iff_ne]; omega
  by_cases h5 : k = 5
  · subst h5
    go_enter Tryd.func52, Tryd.ntmps52
    go_wp2_with fail
    go_ret
    exact ⟨rfl, hb⟩
  have t5 : ((k : Int) == 5) = false := by rw [beq_eq_false_iff_ne]; omega
  by_cases h6 : k = 6
  · subst h6
    go_enter Tryd.func52, Tryd.ntmps52
    go_wp2_with fail
    go_ret
    exact ⟨rfl, hb⟩
  have t6 : ((k : Int) == 6) = false := by rw [beq_eq_false_iff_ne]; omega
  have HE : Hid (Prn.sortW ⟨k, nm⟩ = nm) := Lib.hid (by unfold Prn.sortW; simp only [h1, h2, h3, h4, h5, h6, if_false])
  clear h1 h2 h3 h4 h5 h6
  go_enter Tryd.func52, Tryd.ntmps52
  go_wp2_with fail
  go_ret
  exact ⟨by rw [HE.out]; rfl, hb⟩
namespace Prn
open Go.Proofs.YtmncppnpppdfkaaDoor.Id Go.Proofs.YtmncppnpppdfkaaDoor.Chk
def spL (t : List Srt) : List UInt8 := t.flatMap fun x => (sortW x).data.toList ++ [32]
def spB (t : List Srt) : ByteArray := ⟨(spL t).toArray⟩
def ext (ws : List ByteArray) : List UInt8 := ws.flatMap fun u => 32 :: u.data.toList
theorem ext_app (a b : List ByteArray) : ext (a ++ b) = ext a ++ ext b := by simp [ext]
theorem ext_cons (a : ByteArray) (b : List ByteArray) : ext (a :: b) = 32 :: a.data.toList ++ ext b := rfl
theorem ext_sorts (t : List Srt) : ext (t.map sortW) ++ [32] = 32 :: spL t := by
  unfold ext spL
  induction t with
  | nil => rfl
  | cons x t ih =>
    rw [List.map_cons, List.flatMap_cons, List.flatMap_cons, List.append_assoc, ih]
    simp
theorem sz_le {T : ByteArray} {m : List UInt8} {F : List UInt8} (h : T.data.toList ++ m = F) : T.size + m.length = F.length := by
  rw [← h, List.length_append]
  simp
end Prn
theorem toL (a b : ByteArray) : (a ++ b).data.toList = a.data.toList ++ b.data.toList := by simp
set_option maxRecDepth 100000 in
set_option maxHeartbeats 4000000 in
theorem rwords14_any (v : Value) (t : List Id.Srt) (h12 : t.length ≤ 1000) (hsz : ∀ x ∈ t, (Prn.sortW x).size ≤ 1000) (w : World) (hv : Id.SortsR w none v t) :
    Calls Tryd.prog 28 #[v] w fun e w' => e = .returned (.string (Prn.spB t)) ∧ Below w.heap.size w w' := by
  obtain ⟨A, n, c, rfl⟩ := ERow.is hv
  have HN : Hid (n = t.length) := Lib.hid (by obtain ⟨_, _, e, _⟩ := ERow.slice hv; injection e)
  have hn : n ≤ 1000 := by rw [HN.out]; exact h12
  have HV := Lib.hid hv
  have HZ := Lib.hid hsz
  clear hv hsz h12
  go_enter Tryd.func28, Tryd.ntmps28
  go_wp2_with fail
  go_loopw [4, 3] (fun i s wr => ∃ (k : Nat) (S : ByteArray), k ≤ n ∧ i = .int .i64 k ∧ .string S = s ∧ S.size ≤ k * 1001 ∧ Hid (S.data.toList = Prn.spL (t.take k)) ∧ Hid (Below w.heap.size w wr)) (fun i _ _ => n - (intOf i).toNat)
  case atStart => exact ⟨0, ⟨#[]⟩, by omega, rfl, rfl, Nat.zero_le _, Lib.hid rfl, Lib.hid (Below.refl _ _)⟩
  case round =>
    obtain ⟨k, S, hk, rfl, rfl, hS, HS, HB⟩ := hrel
    obtain ⟨V, rfl⟩ : ∃ w', w' = wr := ⟨_, rfl⟩
    have ik0 : (0 : Int) ≤ (k : Int) := by omega
    by_cases hlt : k < n
    case neg =>
      have HE : Hid (S = Prn.spB t) := Lib.hid (by
        have h := HS.out
        rw [List.take_of_length_le (by have := HN.out; omega)] at h
        unfold Prn.spB
        rw [← h])
      go_wp2_with fail
      go_ret
      exact ⟨by rw [HE.out]; rfl, HB.out⟩
    have hka : k < t.length := by rw [← HN.out]; exact hlt
    obtain ⟨g, off, cs, rfl, -, e1, hc⟩ := ERow.get HV.out hka (by omega)
    have hz := HZ.out _ (List.getElem_mem hka)
    have HTK : Hid (Prn.spL (t.take (k + 1)) = Prn.spL (t.take k) ++ ((Prn.sortW t[k]).data.toList ++ [32])) := Lib.hid (by
      unfold Prn.spL
      rw [List.take_succ_eq_append_getElem hka, List.flatMap_append]
      simp)
    obtain ⟨⟨xk, xn⟩, Hx⟩ : ∃ y, Hid (t[k] = y) := ⟨_, Lib.hid rfl⟩
    rw [Hx.out] at e1 hz HTK
    unfold Id.SortE Id.Srt.cells at e1
    subst e1
    have a0 := hc 0 _ rfl
    have a1 := hc 1 _ rfl
    simp only [Nat.add_zero] at a0
    have hgl : g < w.heap.size := World.block_lt_of_cell? w _ a0
    have a0 := (HB.out.cell hgl).trans a0
    have a1 := (HB.out.cell hgl).trans a1
    have ik1 : (k : Int) < (n : Int) := by omega
    obtain ⟨wd, HW⟩ : ∃ wd, Hid (Prn.sortW ⟨xk, xn⟩ = wd) := ⟨_, Lib.hid rfl⟩
    rw [HW.out] at hz HTK
    have hk3 : k * 1001 ≤ 1000 * 1001 := Nat.mul_le_mul_right _ (by omega)
    have z1 : (9223372036854775807 < S.size + wd.size) = False := by simp; omega
    have z2 : (9223372036854775807 < S.size + wd.size + 1) = False := by simp; omega
    have hS2 : (S ++ wd ++ ⟨#[32]⟩).size ≤ (k + 1) * 1001 := by
      have h1 : (S ++ wd ++ ⟨#[32]⟩ : ByteArray).size = S.size + wd.size + 1 := by simp [ByteArray.size_append]; rfl
      rw [h1, Nat.succ_mul]
      omega
    have HS2 : Hid ((S ++ wd ++ ⟨#[32]⟩ : ByteArray).data.toList = Prn.spL (t.take (k + 1))) := Lib.hid (by
      rw [HTK.out, ← HS.out, toL, toL, List.append_assoc])
    clear hc Hx hka HS hz hk3
    go_wp2_with fail
    refine (rword_any xk xn _).mono ?_
    rw [HW.out]
    rintro e V2 ⟨rfl, hb⟩
    have HB2 := Lib.hid (HB.out.trans (hb.mono HB.out.size))
    clear hb a0 a1
    go_wp2_with fail
    go_roundw
    case rel => exact ⟨k + 1, _, by omega, by go_num, rfl, hS2, HS2, HB2⟩
    case measure => simp [intOf] <;> omega
end Go.Proofs.YtmncppnpppdfkaaDoor
