/- The document's From; the law's entries. -/
import Derived.Test.YtdjccepchleacaaTabQ
import Derived.Test.YtdjccepchleacaaTabG
set_option linter.unusedVariables false
set_option linter.unusedSimpArgs false
namespace Go.Proofs.Ytdjccepchleacaa
open Go.RowKit Go.BigFrame
theorem info_entry6 : (Try.prog.info? 48).map (fun i => (i.zero, i.size, i.bytes)) = some (some (.agg #[.string ByteArray.empty, .string ByteArray.empty, .bool false]), 3, 40) := by kernel_rfl
theorem Tb.from_take {l : List Tb.Ent} {k : Nat} (h : k < l.length) (key : ByteArray) : Tb.from_ (l.take (k + 1)) key = Tb.from_ (l.take k) key ++ (if Tb.less l[k].key key = true then [] else [l[k]]) := by
  rw [List.take_succ_eq_append_getElem h]
  unfold Tb.from_
  rw [List.filter_append]
  congr 1
  cases h2 : Tb.less l[k].key key <;> simp [h2]
theorem Tb.own_drewN {w : World} {B e size n : Nat} {v : Value} {xs : List Value} (h : w.ownsRow B e size v n xs) (q : Nat) : (w.drewN q).ownsRow B e size v n xs := h
theorem Tb.cells_snoc (l : List Tb.Ent) (x : Tb.Ent) : l.flatMap Tb.Ent.cells ++ [.string x.key, .string x.value, .bool x.gone] = (l ++ [x]).flatMap Tb.Ent.cells := by simp [Tb.Ent.cells]
set_option maxRecDepth 100000 in
set_option maxHeartbeats 4000000 in
theorem entries6_any (A : Option Addr) (n c : Nat) (hm : n ≤ 5000) (l : List Tb.Ent) (hn : l.length = n) (w : World) (hl : Lie w A (l.flatMap Tb.Ent.cells)) :
    Calls Try.prog 16 #[.slice A n c] w fun e w' => ∃ v, e = .returned v ∧ Below w.heap.size w w' ∧ w'.ownsRow w.heap.size 48 3 v n (l.flatMap Tb.Ent.cells) := by
  have Hn := Lib.hid hn
  have Hl := Lib.hid hl
  clear hn hl
  go_enter Try.func16, Try.ntmps16
  go_wp2_with fail
  go_loopw [3, 4] (fun v i wr => ∃ k : Nat, k ≤ n ∧ i = .int .i64 k ∧ Hid (wr.ownsRow w.heap.size 48 3 v k ((l.take k).flatMap Tb.Ent.cells)) ∧ Below w.heap.size w wr) (fun _ i _ => n - (intOf i).toNat)
  case atStart => exact ⟨0, by omega, rfl, Lib.hid ⟨rfl, .inl ⟨rfl, rfl⟩⟩, Below.refl _ _⟩
  case round =>
    obtain ⟨k, hk, rfl, HO, hb⟩ := hrel
    have hbz := hb.size
    by_cases l1 : k < n
    · have hkl : k < l.length := by rw [Hn.out]; exact l1
      obtain ⟨ag, ao, rfl, hca⟩ := (Hl.out.below hb).get Tb.Ent.len hkl (by omega)
      have a0 : wr.cell? ⟨ag, ao + k * 3, none⟩ = _ := hca 0 _ rfl
      have a1 := hca 1 _ rfl
      have a2 := hca 2 _ rfl
      have i1 : (k : Int) < (n : Int) := by omega
      have HT : Hid (l.take (k + 1) = l.take k ++ [l[k]]) := Lib.hid (List.take_succ_eq_append_getElem hkl)
      clear hca
      generalize l[k] = x at *
      obtain ⟨xk, xv, xg⟩ := x
      simp only at a0 a1 a2
      go_wp2_with (at_builtin; go_must (refine wpList_append_cells rfl (.tmp 11) (.tmp 16) _ rfl w.heap.size 48 _ 3 40 Try.underlying45 info_entry6 rfl (by decide) _ k _ rfl HO.out [.string xk, .string xv, .bool xg] rfl wr.heap.size rfl rfl (by simp [Value.oneCell']) (by unfold maxLen; omega) (by omega) hbz ?_))
      intro v' w' hown hbel hg hob
      have HO' := Lib.hid hown
      clear hown hg hob
      go_wp2_with fail
      go_roundw
      case rel => exact ⟨k + 1, by omega, by go_num, Lib.hid (by have := HO'.out; rw [Tb.cells_snoc _ ⟨xk, xv, xg⟩, ← HT.out] at this; exact this), hb.trans hbel⟩
      case measure => simp [intOf]; omega
    · obtain rfl : k = n := by omega
      have HO' : Hid (wr.ownsRow w.heap.size 48 3 _ k (l.flatMap Tb.Ent.cells)) := Lib.hid (by have := HO.out; rwa [List.take_of_length_le (by rw [Hn.out]; exact Nat.le_refl _)] at this)
      go_wp2_with fail
      go_ret
      exact ⟨_, rfl, hb, HO'.out⟩
set_option maxRecDepth 100000 in
set_option maxHeartbeats 4000000 in
theorem from6_any (A : Option Addr) (n c : Nat) (hm : n ≤ 5000) (l : List Tb.Ent) (hn : l.length = n) (hz : Tb.Small l) (key : ByteArray) (hkey : key.size ≤ maxLen) (w : World) (hl : Lie w A (l.flatMap Tb.Ent.cells)) :
    Calls Try.prog 20 #[.slice A n c, .string key] w fun e w' => ∃ v, e = .returned v ∧ Below w.heap.size w w' ∧ w'.ownsRow w.heap.size 48 3 v (Tb.from_ l key).length ((Tb.from_ l key).flatMap Tb.Ent.cells) := by
  have Hn := Lib.hid hn
  have Hl := Lib.hid hl
  have Hz := Lib.hid hz
  clear hn hl hz
  go_enter Try.func20, Try.ntmps20
  go_wp2_with fail
  go_loopw [5, 6] (fun v i wr => ∃ k m : Nat, k ≤ n ∧ m ≤ k ∧ i = .int .i64 k ∧ Hid ((Tb.from_ (l.take k) key).length = m) ∧ Hid (wr.ownsRow w.heap.size 48 3 v m ((Tb.from_ (l.take k) key).flatMap Tb.Ent.cells)) ∧ Below w.heap.size w wr) (fun _ i _ => n - (intOf i).toNat)
  case atStart => exact ⟨0, 0, by omega, by omega, rfl, Lib.hid rfl, Lib.hid ⟨rfl, .inl ⟨rfl, rfl⟩⟩, Below.refl _ _⟩
  case round =>
    obtain ⟨k, m, hk, hmk, rfl, HM, HO, hb⟩ := hrel
    have hbz := hb.size
    by_cases l1 : k < n
    · have hkl : k < l.length := by rw [Hn.out]; exact l1
      obtain ⟨ag, ao, rfl, hca⟩ := (Hl.out.below hb).get Tb.Ent.len hkl (by omega)
      have a0 : wr.cell? ⟨ag, ao + k * 3, none⟩ = _ := hca 0 _ rfl
      have a1 := hca 1 _ rfl
      have a2 := hca 2 _ rfl
      have i1 : (k : Int) < (n : Int) := by omega
      have HT := Lib.hid (Tb.from_take hkl key)
      obtain ⟨z1, z2⟩ := Hz.out _ (List.getElem_mem hkl)
      clear hca
      generalize l[k] = x at *
      obtain ⟨xk, xv, xg⟩ := x
      simp only at a0 a1 a2 HT z1
      go_wp2_with fail
      refine (less5_any xk key (by unfold maxLen; omega) hkey _).mono ?_
      rintro e w' ⟨rfl, q, rfl⟩
      cases hless : Tb.less xk key
      · have HT2 : Hid (Tb.from_ (l.take (k + 1)) key = Tb.from_ (l.take k) key ++ [⟨xk, xv, xg⟩]) := Lib.hid (by rw [HT.out, hless]; rfl)
        clear HT
        go_wp2_with (at_builtin; go_must (refine wpList_append_cells rfl (.tmp 21) (.tmp 26) _ rfl w.heap.size 48 _ 3 40 Try.underlying45 info_entry6 rfl (by decide) _ m _ rfl (Tb.own_drewN HO.out q) [.string xk, .string xv, .bool xg] rfl wr.heap.size rfl rfl (by simp [Value.oneCell']) (by unfold maxLen; omega) (by omega) hbz ?_))
        intro v' w' hown hbel hg hob
        have HO' := Lib.hid hown
        clear hown hg hob
        go_wp2_with fail
        go_roundw
        case rel => exact ⟨k + 1, m + 1, by omega, by omega, by go_num, Lib.hid (by rw [HT2.out, List.length_append, HM.out]; rfl), Lib.hid (by have := HO'.out; rw [Tb.cells_snoc _ ⟨xk, xv, xg⟩, ← HT2.out] at this; exact this), (below_drewN hb q).trans hbel⟩
        case measure => simp [intOf]; omega
      · have HT2 : Hid (Tb.from_ (l.take (k + 1)) key = Tb.from_ (l.take k) key) := Lib.hid (by rw [HT.out, hless]; simp)
        clear HT
        go_wp2_with fail
        go_roundw
        case rel => exact ⟨k + 1, m, by omega, by omega, by go_num, Lib.hid (by rw [HT2.out, HM.out]), Lib.hid (by have := HO.out; rw [← HT2.out] at this; exact Tb.own_drewN this q), below_drewN hb q⟩
        case measure => simp [intOf]; omega
    · obtain rfl : k = n := by omega
      have htk : l.take k = l := List.take_of_length_le (by rw [Hn.out]; exact Nat.le_refl _)
      rw [htk] at HM HO
      have hM := HM.out
      subst hM
      go_wp2_with fail
      go_ret
      exact ⟨_, rfl, hb, HO.out⟩
end Go.Proofs.Ytdjccepchleacaa
