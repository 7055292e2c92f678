/- table.entry. -/
import Derived.Test.YtdjccepchleacaaTabD
import Derived.Test.YtdjccepchleacaaRes
set_option linter.unusedVariables false
set_option linter.unusedSimpArgs false
namespace Go.Proofs.Ytdjccepchleacaa
open Go.RowKit Go.BigFrame
/-- What entry tells. -/
def Tb.entV (o : Option (Tb.Ent × Nat)) : Value := match o with
  | none => .tuple #[Tb.Ent.zero.val, .int .i64 0, .bool false]
  | some (x, q) => .tuple #[x.val, .int .i64 q, .bool true]
theorem tget_yes (s : ByteArray) (hs : s.size ≤ 1000000000) (p e : Nat) (he : e ≤ s.size) (hp : p + 4 ≤ e) (w : World) :
    Calls Try.prog 30 #[.string (s.extract 0 e), .int .i64 p] w fun r w' => r = .returned (.tuple #[.int .i64 (Sm.val4 (s.data.toList.drop p)), .bool true]) ∧ Below w.heap.size w w' := by
  have hz : (s.extract 0 e).size = e := by simp; omega
  have h := tget_any (s.extract 0 e) (by omega) p (by omega) (by omega) w
  rw [if_pos ⟨by omega, by omega⟩] at h
  have ev : Sm.val4 ((s.extract 0 e).data.toList.drop (p : Int).toNat) = Sm.val4 (s.data.toList.drop p) := by
    refine Tb.val4_take ?_
    rw [Int.toNat_natCast, Lib.extract_data]
    simp only [List.drop_zero, Nat.sub_zero]
    rw [List.drop_take, List.take_take, Nat.min_eq_left (by omega)]
  rw [ev] at h
  exact h
theorem tget_no (s : ByteArray) (hs : s.size ≤ 1000000000) (p e : Nat) (he : e ≤ s.size) (hp : e < p + 4) (hp2 : p ≤ 1000000000) (w : World) :
    Calls Try.prog 30 #[.string (s.extract 0 e), .int .i64 p] w fun r w' => r = .returned (.tuple #[.int .i64 0, .bool false]) ∧ Below w.heap.size w w' := by
  have hz : (s.extract 0 e).size = e := by simp; omega
  have h := tget_any (s.extract 0 e) (by omega) p (by omega) (by omega) w
  rw [if_neg (by omega)] at h
  exact h
set_option maxRecDepth 100000 in
set_option maxHeartbeats 4000000 in
theorem tentry_any (s : ByteArray) (hs : s.size ≤ 1000000000) (p e : Nat) (hp : p ≤ 900000000) (he : e ≤ s.size) (w : World) :
    Calls Try.prog 32 #[.string s, .int .i64 p, .int .i64 e] w fun r w' => r = .returned (Tb.entV (Tb.readE s p e)) ∧ Below w.heap.size w w' := by
  have hei : (e : Int) ≤ (s.size : Int) := by omega
  obtain ⟨V, HV⟩ : ∃ V, Hid (Tb.entV (Tb.readE s p e) = V) := ⟨_, Lib.hid rfl⟩
  rw [HV.out]
  by_cases h8 : e < p + 8
  · have HV0 : Hid (V = .tuple #[.agg #[.string ⟨#[]⟩, .string ⟨#[]⟩, .bool false], .int .i64 0, .bool false]) := Lib.hid (by rw [← HV.out]; unfold Tb.readE; rw [if_pos h8]; rfl)
    go_enter Try.func32, Try.ntmps32
    go_wp2_with fail
    have hq := Bk.new w 36 #[.string ⟨#[]⟩, .string ⟨#[]⟩, .bool false]
    by_cases h4 : e < p + 4
    case' pos =>
      refine (tget_no s hs p e he h4 (by omega) _).mono ?_
      rintro r w1 ⟨rfl, hb1⟩
      go_wp2_with fail
      refine (tget_no s hs (p + 4) e he (by omega) (by omega) _).mono ?_
      rintro r w2 ⟨rfl, hb2⟩
    case' neg =>
      refine (tget_yes s hs p e he (by omega) _).mono ?_
      rintro r w1 ⟨rfl, hb1⟩
      go_wp2_with fail
      refine (tget_no s hs (p + 4) e he (by omega) (by omega) _).mono ?_
      rintro r w2 ⟨rfl, hb2⟩
    all_goals
      have hq2 := (hq.below hb1 hq.lt).below hb2 (hq.below hb1 hq.lt).lt
      have hB : Below w.heap.size w w2 := ((Below.refl _ _).alloc (Nat.le_refl _) _).trans ((hb1.mono (by simp)).trans (hb2.mono (by have := hb1.size; simp at this; omega)))
      obtain ⟨⟨c0, c1, c2⟩, f0, f1, f2⟩ := hq2.k3
      clear hq hb1 hb2
      go_wp2_with fail
      refine bodyPost_ret (v := .tuple #[.agg #[.string ⟨#[]⟩, .string ⟨#[]⟩, .bool false], .int .i64 0, .bool false]) ?_ rfl ⟨by rw [HV0.out], (by repeat (first | with_reducible assumption | with_reducible refine Below.setCell ?_ (by first | exact Nat.le_refl _ | (show _ ≤ _; omega)) _ | with_reducible refine below_drewN ?_ _ | with_reducible refine Below.drew ?_))⟩
      rw [res_ctt rfl]
      go_simp
  · have h8' : p + 8 ≤ e := by omega
    have hk := Sm.val4_lt (s.data.toList.drop p)
    have hv := Sm.val4_lt (s.data.toList.drop (p + 4))
    have HR : Hid (Tb.readE s p e = if 128 < Sm.val4 (s.data.toList.drop p) ∨ 16384 < (if Sm.val4 (s.data.toList.drop (p + 4)) = 2147483648 then 0 else Sm.val4 (s.data.toList.drop (p + 4))) ∨ e < p + 8 + Sm.val4 (s.data.toList.drop p) + (if Sm.val4 (s.data.toList.drop (p + 4)) = 2147483648 then 0 else Sm.val4 (s.data.toList.drop (p + 4))) then none
      else some (⟨s.extract (p + 8) (p + 8 + Sm.val4 (s.data.toList.drop p)), s.extract (p + 8 + Sm.val4 (s.data.toList.drop p)) (p + 8 + Sm.val4 (s.data.toList.drop p) + (if Sm.val4 (s.data.toList.drop (p + 4)) = 2147483648 then 0 else Sm.val4 (s.data.toList.drop (p + 4)))), decide (Sm.val4 (s.data.toList.drop (p + 4)) = 2147483648)⟩, p + 8 + Sm.val4 (s.data.toList.drop p) + (if Sm.val4 (s.data.toList.drop (p + 4)) = 2147483648 then 0 else Sm.val4 (s.data.toList.drop (p + 4))))) := Lib.hid (by unfold Tb.readE; rw [if_neg h8])
    go_enter Try.func32, Try.ntmps32
    go_wp2_with fail
    have hq := Bk.new w 36 #[.string ⟨#[]⟩, .string ⟨#[]⟩, .bool false]
    refine (tget_yes s hs p e he (by omega) _).mono ?_
    rintro r w1 ⟨rfl, hb1⟩
    go_wp2_with fail
    refine (tget_yes s hs (p + 4) e he (by omega) _).mono ?_
    rintro r w2 ⟨rfl, hb2⟩
    have hq2 := (hq.below hb1 hq.lt).below hb2 (hq.below hb1 hq.lt).lt
    have hB : Below w.heap.size w w2 := ((Below.refl _ _).alloc (Nat.le_refl _) _).trans ((hb1.mono (by simp)).trans (hb2.mono (by have := hb1.size; simp at this; omega)))
    obtain ⟨⟨c0, c1, c2⟩, f0, f1, f2⟩ := hq2.k3
    clear hq hb1 hb2
    generalize Sm.val4 (s.data.toList.drop p) = k at *
    generalize Sm.val4 (s.data.toList.drop (p + 4)) = v at *
    by_cases hg : v = 2147483648
    · subst hg
      simp only [if_true, Nat.add_zero] at HR
      have HR2 : Hid (Tb.readE s p e = if 128 < k ∨ 16384 < 0 ∨ e < p + 8 + k + 0 then none else some (⟨s.extract (p + 8) (p + 8 + k), s.extract (p + 8 + k) (p + 8 + k + 0), true⟩, p + 8 + k + 0)) := Lib.hid (by rw [HR.out]; simp)
      clear HR
      simp only [Int.cast_ofNat_Int]
      by_cases hbad : 128 < k ∨ 16384 < 0 ∨ e < p + 8 + k + 0
      · have HV0 : Hid (V = .tuple #[.agg #[.string ⟨#[]⟩, .string ⟨#[]⟩, .bool false], .int .i64 0, .bool false]) := Lib.hid (by rw [← HV.out, HR2.out, if_pos hbad]; rfl)
        go_wp2_with fail
        all_goals
          refine bodyPost_ret (v := .tuple #[.agg #[.string ⟨#[]⟩, .string ⟨#[]⟩, .bool false], .int .i64 0, .bool false]) ?_ rfl ⟨by rw [HV0.out], (by repeat (first | with_reducible assumption | with_reducible refine Below.setCell ?_ (by first | exact Nat.le_refl _ | (show _ ≤ _; omega)) _ | with_reducible refine below_drewN ?_ _ | with_reducible refine Below.drew ?_))⟩
          rw [res_ctt rfl]
          go_simp
      · have HV0 : Hid (V = .tuple #[.agg #[.string (s.extract (p + 8) (p + 8 + k)), .string (s.extract (p + 8 + k) (p + 8 + k + 0)), .bool true], .int .i64 ((p : Int) + 8 + k + 0), .bool true]) := Lib.hid (by rw [← HV.out, HR2.out, if_neg hbad]; unfold Tb.entV Tb.Ent.val; simp)
        have g1 : k ≤ 128 := by omega
        have g2 : 0 ≤ 16384 := by omega
        have g3 : p + 8 + k + 0 ≤ e := by omega
        clear hbad
        go_wp2_with fail
        go_region
        go_wp2_with fail
        refine bodyPost_ret (v := .tuple #[.agg #[.string (s.extract (p + 8) (p + 8 + k)), .string (s.extract (p + 8 + k) (p + 8 + k + 0)), .bool true], .int .i64 ((p : Int) + 8 + k + 0), .bool true]) ?_ rfl ⟨by rw [HV0.out], (by repeat (first | with_reducible assumption | with_reducible refine Below.setCell ?_ (by first | exact Nat.le_refl _ | (show _ ≤ _; omega)) _ | with_reducible refine below_drewN ?_ _ | with_reducible refine Below.drew ?_))⟩
        rw [res_ctt rfl]
        go_simp
    · have hg1 : ¬ (v : Int) = 2147483648 := by omega
      have HR2 : Hid (Tb.readE s p e = if 128 < k ∨ 16384 < v ∨ e < p + 8 + k + v then none else some (⟨s.extract (p + 8) (p + 8 + k), s.extract (p + 8 + k) (p + 8 + k + v), false⟩, p + 8 + k + v)) := Lib.hid (by rw [HR.out, if_neg hg, decide_eq_false hg])
      clear HR
      by_cases hbad : 128 < k ∨ 16384 < v ∨ e < p + 8 + k + v
      · have HV0 : Hid (V = .tuple #[.agg #[.string ⟨#[]⟩, .string ⟨#[]⟩, .bool false], .int .i64 0, .bool false]) := Lib.hid (by rw [← HV.out, HR2.out, if_pos hbad]; rfl)
        go_wp2_with fail
        all_goals
          refine bodyPost_ret (v := .tuple #[.agg #[.string ⟨#[]⟩, .string ⟨#[]⟩, .bool false], .int .i64 0, .bool false]) ?_ rfl ⟨by rw [HV0.out], (by repeat (first | with_reducible assumption | with_reducible refine Below.setCell ?_ (by first | exact Nat.le_refl _ | (show _ ≤ _; omega)) _ | with_reducible refine below_drewN ?_ _ | with_reducible refine Below.drew ?_))⟩
          rw [res_ctt rfl]
          go_simp
      · have HV0 : Hid (V = .tuple #[.agg #[.string (s.extract (p + 8) (p + 8 + k)), .string (s.extract (p + 8 + k) (p + 8 + k + v)), .bool false], .int .i64 ((p : Int) + 8 + k + v), .bool true]) := Lib.hid (by rw [← HV.out, HR2.out, if_neg hbad]; unfold Tb.entV Tb.Ent.val; simp)
        have g1 : k ≤ 128 := by omega
        have g2 : v ≤ 16384 := by omega
        have g3 : p + 8 + k + v ≤ e := by omega
        clear hbad
        go_wp2_with fail
        go_region
        go_wp2_with fail
        refine bodyPost_ret (v := .tuple #[.agg #[.string (s.extract (p + 8) (p + 8 + k)), .string (s.extract (p + 8 + k) (p + 8 + k + v)), .bool false], .int .i64 ((p : Int) + 8 + k + v), .bool true]) ?_ rfl ⟨by rw [HV0.out], (by repeat (first | with_reducible assumption | with_reducible refine Below.setCell ?_ (by first | exact Nat.le_refl _ | (show _ ≤ _; omega)) _ | with_reducible refine below_drewN ?_ _ | with_reducible refine Below.drew ?_))⟩
        rw [res_ctt rfl]
        go_simp
end Go.Proofs.Ytdjccepchleacaa
