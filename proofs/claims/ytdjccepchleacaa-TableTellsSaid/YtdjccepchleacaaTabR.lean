/- The document's Room, Same, Get. -/
import Derived.Test.YtdjccepchleacaaTabQ
import Derived.Test.YtdjccepchleacaaRes
set_option linter.unusedVariables false
set_option linter.unusedSimpArgs false
namespace Go.Proofs.Ytdjccepchleacaa
open Go.RowKit Go.BigFrame
set_option maxRecDepth 100000 in
set_option maxHeartbeats 4000000 in
theorem room6_any (A : Option Addr) (n c : Nat) (hn5 : n ≤ 5000) (l : List Tb.Ent) (hn : l.length = n) (hz : Tb.Small l) (w : World) (hl : Lie w A (l.flatMap Tb.Ent.cells)) :
    Calls Try.prog 18 #[.slice A n c] w fun e w' => e = .returned (.int .i64 (Tb.room l)) ∧ ∃ q, w' = w.drewN q := by
  have Hn := Lib.hid hn
  have Hl := Lib.hid hl
  have Hz := Lib.hid hz
  clear hn hl hz
  go_enter Try.func18, Try.ntmps18
  go_wp2_with fail
  go_loopw [3, 4] (fun s i wr => ∃ k : Nat, k ≤ n ∧ i = .int .i64 k ∧ s = .int .i64 (Tb.room (l.take k)) ∧ ∃ q, wr = w.drewN q) (fun _ i _ => n - (intOf i).toNat)
  case atStart => exact ⟨0, by omega, rfl, rfl, 0, rfl⟩
  case round =>
    obtain ⟨k, hk, rfl, rfl, q, rfl⟩ := hrel
    have hgl : Tb.room (l.take k) ≤ 64 + (3 * 4194304 + 24) * 5000 := by
      have h1 := Tb.room_le (l.take k) 4194304 (fun x hx => Hz.out x (List.mem_of_mem_take hx))
      have h2 := List.length_take_le k l
      have h3 : (3 * 4194304 + 24) * (l.take k).length ≤ (3 * 4194304 + 24) * 5000 := Nat.mul_le_mul_left _ (by omega)
      omega
    by_cases l1 : k < n
    · have hkl : k < l.length := by rw [Hn.out]; exact l1
      obtain ⟨ag, ao, rfl, hca⟩ := Hl.out.get Tb.Ent.len hkl (by omega)
      have a0 : w.cell? ⟨ag, ao + k * 3, none⟩ = _ := hca 0 _ rfl
      have a1 := hca 1 _ rfl
      have HS := Lib.hid (Tb.room_take hkl)
      obtain ⟨z1, z2⟩ := Hz.out _ (List.getElem_mem hkl)
      have i0 : (0 : Int) ≤ (k : Int) := by omega
      have i1 : (k : Int) < (n : Int) := by omega
      clear hca
      generalize l[k] = x at *
      obtain ⟨xk, xv, xg⟩ := x
      simp only at a0 a1 z1 z2 HS
      generalize Tb.room (l.take k) = G at *
      have s0 : IntKind.i64.wrap (2 * (xk.size : Int)) = 2 * (xk.size : Int) := IntWalk.i64_in _ (by omega)
      have s1 : IntKind.i64.wrap ((G : Int) + 2 * (xk.size : Int)) = (G : Int) + 2 * (xk.size : Int) := IntWalk.i64_in _ (by omega)
      have s2 : IntKind.i64.wrap ((G : Int) + 2 * (xk.size : Int) + (xv.size : Int)) = (G : Int) + 2 * (xk.size : Int) + (xv.size : Int) := IntWalk.i64_in _ (by omega)
      have s3 : IntKind.i64.wrap ((G : Int) + 2 * (xk.size : Int) + (xv.size : Int) + 24) = (G : Int) + 2 * (xk.size : Int) + (xv.size : Int) + 24 := IntWalk.i64_in _ (by omega)
      go_wp2_with fail
      go_quiet (fail)
      go_wp2_with fail
      go_roundw
      case rel => exact ⟨k + 1, by omega, by go_num, by rw [HS.out]; go_num, _, rfl⟩
      case measure => simp [intOf]; omega
    · obtain rfl : k = n := by omega
      have htk : l.take k = l := List.take_of_length_le (by rw [Hn.out]; exact Nat.le_refl _)
      rw [htk]
      clear hgl htk
      go_wp2_with fail
      go_ret
      exact ⟨rfl, q, rfl⟩
set_option maxRecDepth 100000 in
set_option maxHeartbeats 4000000 in
theorem same6_any (A B : Option Addr) (n c d : Nat) (hm : n ≤ 9223372036854775807) (l : List Tb.Ent) (hn : l.length = n) (w : World) (ha : Lie w A (l.flatMap Tb.Ent.cells)) (hb : Lie w B (l.flatMap Tb.Ent.cells)) :
    Calls Try.prog 21 #[.slice A n c, .slice B n d] w fun e w' => e = .returned (.bool true) ∧ ∃ q, w' = w.drewN q := by
  have Hn := Lib.hid hn
  have Ha := Lib.hid ha
  have Hb := Lib.hid hb
  clear hn ha hb
  go_enter Try.func21, Try.ntmps21
  go_wp2_with fail
  go_loopw [5] (fun i wr => ∃ k q : Nat, k ≤ n ∧ i = .int .i64 k ∧ wr = w.drewN q) (fun i _ => n - (intOf i).toNat)
  case atStart => exact ⟨0, 0, by omega, rfl, rfl⟩
  case round =>
    obtain ⟨k, q, hk, rfl, rfl⟩ := hrel
    by_cases l1 : k < n
    · have hkl : k < l.length := by rw [Hn.out]; exact l1
      obtain ⟨ag, ao, rfl, hca⟩ := Ha.out.get Tb.Ent.len hkl (by omega)
      obtain ⟨bg, bo, rfl, hcb⟩ := Hb.out.get Tb.Ent.len hkl (by omega)
      have a0 : w.cell? ⟨ag, ao + k * 3, none⟩ = _ := hca 0 _ rfl
      have a1 := hca 1 _ rfl
      have a2 := hca 2 _ rfl
      have b0 : w.cell? ⟨bg, bo + k * 3, none⟩ = _ := hcb 0 _ rfl
      have b1 := hcb 1 _ rfl
      have b2 := hcb 2 _ rfl
      have i0 : (0 : Int) ≤ (k : Int) := by omega
      have i1 : (k : Int) < (n : Int) := by omega
      clear hca hcb
      generalize l[k] = x at *
      obtain ⟨xk, xv, xg⟩ := x
      simp only at a0 a1 a2 b0 b1 b2
      go_wp2_with fail
      go_quiet (fail)
      go_wp2_with fail
      go_roundw
      case rel => exact ⟨k + 1, _, by omega, by go_num, rfl⟩
      case measure => simp [intOf]; omega
    · obtain rfl : k = n := by omega
      go_wp2_with fail
      go_ret
      exact ⟨rfl, q, rfl⟩
theorem res_ct6 {fn : Func} {p u : Tmp} {ty : TypeId} (h : fn.results = #[.cell p ty, .tmp u]) (tmps : Array Value) (P : Program) (w : World) :
    (results fn tmps).run P w = ((asAddr (tmps.getD p undef)).run P w).andThen fun a w₁ => ((loadVar ty a).run P w₁).andThen fun x w₂ => .ok (.tuple #[x, tmps.getD u undef]) w₂ := by
  simp only [results, h]
  simp [Sem.run_bind, Result.andThen]
set_option maxRecDepth 100000 in
set_option maxHeartbeats 4000000 in
theorem get6_any (A : Option Addr) (n c : Nat) (hm : n ≤ 9223372036854775807) (l : List Tb.Ent) (hn : l.length = n) (key : ByteArray) (w : World) (hl : Lie w A (l.flatMap Tb.Ent.cells)) :
    Calls Try.prog 19 #[.slice A n c, .string key] w fun e w' => e = .returned (Tb.getV (l.find? (fun x => x.key.toList == key.toList))) ∧ Below w.heap.size w w' := by
  have Hn := Lib.hid hn
  have Hl := Lib.hid hl
  clear hn hl
  obtain ⟨R, HR⟩ : ∃ R, Hid (l.find? (fun x => x.key.toList == key.toList) = R) := ⟨_, Lib.hid rfl⟩
  rw [HR.out]
  go_enter Try.func19, Try.ntmps19
  go_wp2_with fail
  have hq := Bk.new w 48 #[.string ⟨#[]⟩, .string ⟨#[]⟩, .bool false]
  have hB := (Below.refl w.heap.size w).alloc (Nat.le_refl _) (.cells #[.string ⟨#[]⟩, .string ⟨#[]⟩, .bool false] 48)
  generalize (w.alloc (.cells #[.string ⟨#[]⟩, .string ⟨#[]⟩, .bool false] 48)) = w1 at *
  have Hl1 := Lib.hid (Hl.out.below hB)
  obtain ⟨⟨c0, c1, c2⟩, f0, f1, f2⟩ := hq.k3
  go_loopw [6] (fun i wr => ∃ k : Nat, k ≤ n ∧ i = .int .i64 k ∧ Hid (R = (l.drop k).find? (fun x => x.key.toList == key.toList)) ∧ wr = w1) (fun i _ => n - (intOf i).toNat)
  case atStart => exact ⟨0, by omega, rfl, Lib.hid (by rw [← HR.out]; rfl), rfl⟩
  case round =>
    obtain ⟨k, hk, rfl, HK, rfl⟩ := hrel
    by_cases l1 : k < n
    · have hkl : k < l.length := by rw [Hn.out]; exact l1
      obtain ⟨ag, ao, rfl, hca⟩ := Hl1.out.get Tb.Ent.len hkl (by omega)
      have a0 : wr.cell? ⟨ag, ao + k * 3, none⟩ = _ := hca 0 _ rfl
      have a1 := hca 1 _ rfl
      have a2 := hca 2 _ rfl
      have i1 : (k : Int) < (n : Int) := by omega
      have HD : Hid (R = if (l[k].key.toList == key.toList) = true then some l[k] else (l.drop (k + 1)).find? (fun x => x.key.toList == key.toList)) := Lib.hid (by
        rw [HK.out, Tb.drop_get hkl, List.find?_cons]
        cases l[k].key.toList == key.toList <;> rfl)
      clear hca HK
      generalize l[k] = x at *
      obtain ⟨xk, xv, xg⟩ := x
      simp only at a0 a1 a2 HD
      cases hxk : (xk.toList == key.toList)
      · have HE : Hid (R = (l.drop (k + 1)).find? (fun x => x.key.toList == key.toList)) := Lib.hid (by rw [HD.out, hxk]; rfl)
        clear HD
        go_wp2_with fail
        go_roundw
        case rel => exact ⟨k + 1, by omega, by go_num, HE, trivial⟩
        case measure => simp [intOf]; omega
      · have HE : Hid (R = some ⟨xk, xv, xg⟩) := Lib.hid (by rw [HD.out, hxk]; rfl)
        clear HD
        go_wp2_with fail
        refine bodyPost_ret (v := .tuple #[.agg #[.string xk, .string xv, .bool xg], .bool true]) ?_ rfl ⟨by rw [HE.out]; rfl, ?_⟩
        · rw [res_ct6 rfl]
          go_simp
        · exact (by repeat (first | with_reducible assumption | with_reducible refine Below.setCell ?_ (by first | exact Nat.le_refl _ | (show _ ≤ _; omega)) _ | with_reducible refine below_drewN ?_ _ | with_reducible refine Below.drew ?_))
    · obtain rfl : k = n := by omega
      have HE : Hid (R = none) := Lib.hid (by rw [HK.out, List.drop_of_length_le (by rw [Hn.out]; exact Nat.le_refl _)]; rfl)
      clear HK
      go_wp2_with fail
      refine bodyPost_ret (v := .tuple #[.agg #[.string ⟨#[]⟩, .string ⟨#[]⟩, .bool false], .bool false]) ?_ rfl ⟨by rw [HE.out]; rfl, ?_⟩
      · rw [res_ct6 rfl]
        go_simp
      · exact (by repeat (first | with_reducible assumption | with_reducible refine Below.setCell ?_ (by first | exact Nat.le_refl _ | (show _ ≤ _; omega)) _ | with_reducible refine below_drewN ?_ _ | with_reducible refine Below.drew ?_))
end Go.Proofs.Ytdjccepchleacaa
