/- table.Build. -/
import Derived.Test.YtdjccepchleacaaTabC
import Derived.Test.YtdjccepchleacaaBuilder
import Derived.Test.YtdjccepchleacaaShelf
import Derived.Test.YtdjccepchleacaaSumWalkF
set_option linter.unusedVariables false
set_option linter.unusedSimpArgs false
namespace Go.Proofs.Ytdjccepchleacaa
open Go.RowKit Go.BigFrame
theorem row_below' {w w1 : World} {base : Nat} {e : TypeId} {size : Nat} {v : Value} {n : Nat} {xs : List Value} (h : w.ownsRow base e size v n xs) (hb : Below w.heap.size w w1) : w1.ownsRow base e size v n xs := by
  refine ⟨h.1, ?_⟩
  rcases h.2 with hn | ⟨g, cap, cur, rfl, hbs, hgg, rest⟩
  · exact .inl hn
  · exact .inr ⟨g, cap, cur, rfl, hbs, by rw [hb.block g (Array.getElem?_eq_some_iff.1 hgg).1]; exact hgg, rest⟩
theorem Bd.isAlloc {T e : TypeId} {B b : Nat} {bs : List Value} {w : World} (h : Lib.IsBuilder T e B b bs w) (o : Obj) : Lib.IsBuilder T e B b bs (w.alloc o) := by
  rcases h with h | h
  · obtain ⟨hB, v, hb, hown, hne⟩ := h
    have hlt := Lib.BuilderAt.lt ⟨hB, v, hb, hown, hne⟩
    exact .inl ⟨hB, v, (Lib.alloc_old w o b hlt).trans hb, hown.alloc o, hne⟩
  · obtain ⟨hB, v, hb, hown, hne⟩ := h
    have hlt := Lib.BuilderAt.lt ⟨hB, v, hb, hown, hne⟩
    exact .inr ⟨hB, v, (Lib.alloc_old w o b hlt).trans hb, hown.alloc o, hne⟩
theorem Bd.isBelow {T e : TypeId} {B b : Nat} {bs : List Value} {w w' : World} (h : Lib.IsBuilder T e B b bs w) (hb : Below w.heap.size w w') : Lib.IsBuilder T e B b bs w' := by
  rcases h with h | h
  · obtain ⟨hB, v, hk, hown, hne⟩ := h
    exact .inl ⟨hB, v, (hb.block b (Lib.BuilderAt.lt ⟨hB, v, hk, hown, hne⟩)).trans hk, row_below' hown hb, hne⟩
  · obtain ⟨hB, v, hk, hown, hne⟩ := h
    exact .inr ⟨hB, v, (hb.block b (Lib.BuilderAt.lt ⟨hB, v, hk, hown, hne⟩)).trans hk, row_below' hown hb, hne⟩
theorem Bd.byteCells_len (l : List UInt8) : (Lib.byteCells l).length = l.length := by simp [Lib.byteCells]
theorem Bd.cells_app (a b : List UInt8) : Lib.byteCells a ++ Lib.strCells (Tb.ba b) = Lib.byteCells (a ++ b) := by
  simp [Lib.byteCells, Lib.strCells, Tb.ba]
theorem Tb.body_take {l : List Tb.Ent} {k : Nat} (h : k < l.length) : Tb.body (l.take (k + 1)) = Tb.body (l.take k) ++ Tb.text l[k] := by
  unfold Tb.body; rw [List.take_succ_eq_append_getElem h, List.flatMap_append]; simp only [List.flatMap_cons, List.flatMap_nil, List.append_nil]
theorem Tb.body_take_le {l : List Tb.Ent} (k : Nat) : (Tb.body (l.take k)).length ≤ (Tb.body l).length := by
  conv => rhs; rw [← List.take_append_drop k l]
  unfold Tb.body
  rw [List.flatMap_append, List.length_append]
  omega
/-- What Build tells. -/
def Tb.built (l : List Tb.Ent) : ByteArray := if Tb.right l = 0 then Tb.ba (Tb.bytes l) else ⟨#[]⟩
set_option maxRecDepth 100000 in
set_option maxHeartbeats 4000000 in
theorem tbuild_any (A : Option Addr) (n c : Nat) (l : List Tb.Ent) (hn : l.length = n) (hm : n ≤ 9223372036854775807) (hz : Tb.Small l) (w : World) (hl : Lie w A (l.flatMap Tb.Ent.cells)) :
    Calls Try.prog 9 #[.slice A n c] w fun e w' => e = .returned (.tuple #[.string (Tb.built l), .int .i64 (Tb.right l)]) ∧ Below w.heap.size w w' := by
  have Hn := Lib.hid hn
  have Hl := Lib.hid hl
  have Hz := Lib.hid hz
  clear hn hl hz
  obtain ⟨T, HT⟩ : ∃ T, Hid (Tb.built l = T) := ⟨_, Lib.hid rfl⟩
  rw [HT.out]
  go_enter Try.func9, Try.ntmps9
  go_wp2_with fail
  refine (tright_any A n c l Hn.out hm Hz.out _ Hl.out).mono ?_
  rintro e w1 ⟨rfl, hb1⟩
  obtain ⟨R, HR⟩ : ∃ R, Hid (Tb.right l = R) := ⟨_, Lib.hid rfl⟩
  rw [HR.out]
  by_cases hR : R = 0
  case' neg =>
    have tR : ((R : Int) != 0) = true := by rw [bne_iff_ne]; omega
    have HT2 : Hid (T = ⟨#[]⟩) := Lib.hid (by rw [← HT.out]; unfold Tb.built; rw [if_neg (by rw [HR.out]; exact hR)])
    go_wp2_with fail
    go_ret2
    refine ⟨?_, hb1⟩
    rw [HT2.out, HR.out]
    rfl
  subst hR
  simp only [Int.cast_ofNat_Int]
  have HT2 : Hid (T = Tb.ba (Tb.bytes l)) := Lib.hid (by rw [← HT.out]; unfold Tb.built; rw [if_pos HR.out])
  have HF := Lib.hid (Tb.right_fit HR.out)
  have HBB := Lib.hid (Tb.body_bound HR.out)
  have hn4 : n ≤ 4096 := by have := (Tb.right_zero HR.out).1; rw [Hn.out] at this; exact this
  have Hl1 := Lib.hid (Hl.out.below hb1)
  have hb1z := hb1.size
  clear HT Hl Hz hm
  go_wp2_with fail
  go_loopw [16] (fun i wr => ∃ k : Nat, k ≤ n ∧ i = .int .i64 k ∧ Hid (Lib.IsBuilder 58 5 w1.heap.size w1.heap.size (Lib.byteCells (Tb.body (l.take k))) wr) ∧ Below w1.heap.size w1 wr) (fun i _ => n - (intOf i).toNat)
  case atStart =>
    exact ⟨0, by omega, rfl, Lib.hid (.inl ⟨Nat.le_refl _, .slice none 0 0, heap_alloc_new _ _, World.ownsRow_nil _ _ _ _, by simp [Value.ownBlock]⟩), (Below.refl _ _).alloc (Nat.le_refl _) _⟩
  case round =>
    obtain ⟨k, hk, rfl, HBD, hb2⟩ := hrel
    have hz2 : w1.heap.size < wr.heap.size := by rcases HBD.out with h | h <;> exact Lib.BuilderAt.lt h
    by_cases hlt : k < n
    · have hkl : k < l.length := by rw [Hn.out]; exact hlt
      obtain ⟨ag, ao, rfl, hca⟩ := (Hl1.out.below hb2).get Tb.Ent.len hkl (by omega)
      have a0 : wr.cell? ⟨ag, ao + k * 3, none⟩ = _ := hca 0 _ rfl
      have a1 := hca 1 _ rfl
      have a2 := hca 2 _ rfl
      have hki : (k : Int) < (n : Int) := by omega
      have hfit := Lib.hid (HF.out _ (List.getElem_mem hkl))
      have HBT := Lib.hid (Tb.body_take hkl)
      have hle1 : (Tb.body (l.take k)).length + (Tb.text l[k]).length ≤ 557056 := by
        have h := Tb.body_take_le (l := l) (k + 1)
        rw [HBT.out, List.length_append] at h
        have := HBB.out
        omega
      clear hca
      generalize l[k] = x at *
      obtain ⟨xk, xv, xg⟩ := x
      simp only at a0 a1 a2
      go_wp2_with fail
      refine (etext_any ⟨xk, xv, xg⟩ hfit.out _).mono ?_
      rintro e w3 ⟨rfl, hb3⟩
      have hz3 := hb3.size
      simp only [World.size_alloc] at hz3
      go_wp2_with fail
      refine (Bd.writeString w1.heap.size w1.heap.size (Lib.byteCells (Tb.body (l.take k))) (Tb.ba (Tb.text ⟨xk, xv, xg⟩)) _ (Bd.isBelow (Bd.isAlloc HBD.out _) hb3) (by rw [Bd.byteCells_len, Tb.ba_size]; omega) (by omega)).mono ?_
      rintro e w4 ⟨rfl, ⟨hb4, hbw4⟩, _⟩
      have HB4 := Lib.hid hb4
      clear hb4
      go_wp2_with fail
      go_roundw
      case rel => exact ⟨k + 1, by omega, by go_num, Lib.hid (.inr (by have := HB4.out; rw [Bd.cells_app, ← HBT.out] at this; exact this)), ((hb2.alloc (by omega) _).trans (hb3.mono (by simp; omega))).trans hbw4⟩
      case measure => simp [intOf]; omega
    · obtain rfl : k = n := by omega
      have HBD2 : Hid (Lib.IsBuilder 58 5 w1.heap.size w1.heap.size (Lib.byteCells (Tb.body l)) wr) := Lib.hid (by have := HBD.out; rwa [List.take_of_length_le (by rw [Hn.out]; exact Nat.le_refl _)] at this)
      clear HBD hk hlt
      go_wp2_with fail
      refine (tput_any k (by omega) _).mono ?_
      rintro e w3 ⟨rfl, hb3⟩
      have hsz1 : (Tb.ba (Sm.le4 k)).size = 4 := rfl
      go_wp2_with fail
      refine (Try.Builder_Len w1.heap.size w1.heap.size _ _ (Bd.isBelow HBD2.out hb3)).mono ?_
      rintro e w4 ⟨rfl, rfl⟩
      rw [Bd.byteCells_len]
      go_wp2_with fail
      refine (tput_any _ (by have := HBB.out; omega) _).mono ?_
      rintro e w5 ⟨rfl, hb5⟩
      have hsz2 : (Tb.ba (Sm.le4 (Tb.body l).length)).size = 4 := rfl
      go_wp2_with fail
      refine (Try.Builder_String_any w1.heap.size w1.heap.size (Tb.body l) _ (Bd.isBelow (Bd.isBelow HBD2.out hb3) hb5) (by have := hb3.size; have := hb5.size; omega)).mono ?_
      rintro e w6 ⟨rfl, hb6⟩
      have hsz3 : (Tb.ba (Tb.body l)).size ≤ 557056 := by rw [Tb.ba_size]; exact HBB.out
      rw [show (⟨(Tb.body l).toArray⟩ : ByteArray) = Tb.ba (Tb.body l) from rfl]
      have HP : Hid ((⟨#[114, 116, 49, 10]⟩ ++ Tb.ba (Sm.le4 k) ++ Tb.ba (Sm.le4 (Tb.body l).length) ++ Tb.ba (Tb.body l) : ByteArray) = Tb.ba (Tb.pre l)) := Lib.hid (Tb.ext_list (by simp [Tb.ba, Tb.pre, Hn.out, Tb.mark]))
      go_wp2_with fail
      rw [HP.out]
      have hpl : (Tb.ba (Tb.pre l)).size ≤ 557068 := by rw [Tb.ba_size, Tb.pre_len]; have := HBB.out; omega
      refine (crc_any (Tb.ba (Tb.pre l)) (by unfold maxLen; omega) _).mono ?_
      rintro e w7 ⟨rfl, hb7⟩
      rw [Tb.ba_list]
      have hcl := Sm.crc_lt (Tb.pre l)
      have HV : Hid (wrap64 (Sm.crc (Tb.pre l) : Int) = (Sm.crc (Tb.pre l) : Int)) := Lib.hid (by unfold wrap64; omega)
      have HY : Hid (Tb.ba (Tb.pre l) ++ Tb.ba (Sm.le4 (Sm.crc (Tb.pre l))) = Tb.ba (Tb.bytes l)) := Lib.hid (Tb.ext_list (by simp [Tb.ba, Tb.bytes]))
      have hsz4 : (Tb.ba (Sm.le4 (Sm.crc (Tb.pre l)))).size = 4 := rfl
      generalize Sm.crc (Tb.pre l) = cr at *
      go_wp2_with fail
      refine (tput_any cr (by omega) _).mono ?_
      rintro e w8 ⟨rfl, hb8⟩
      go_wp2_with fail
      go_ret2
      refine ⟨?_, ((hb1.trans (hb2.mono hb1z)).trans (hb3.mono (by omega))).trans ((hb5.mono ?_).trans ((hb6.mono (by omega)).trans ((hb7.mono ?_).trans (hb8.mono ?_))))⟩
      · rw [HT2.out, HR.out, ← HY.out]; rfl
      all_goals (have := hb3.size; have := hb5.size; have := hb6.size; have := hb7.size; omega)
end Go.Proofs.Ytdjccepchleacaa
