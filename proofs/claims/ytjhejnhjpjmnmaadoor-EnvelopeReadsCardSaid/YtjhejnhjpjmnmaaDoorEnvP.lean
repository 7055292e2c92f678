/- envelope.Pack. -/
import Derived.Test.YtjhejnhjpjmnmaaDoorEnvD
import Derived.Deep.RegionHeld3
import Derived.Deep.DrawnRows
set_option linter.unusedVariables false
namespace Go.Proofs.YtjhejnhjpjmnmaaDoor
open Go.RowKit
attribute [local go_sem ↓] Go.wp_at_zero Go.wp_at_succ
namespace Ev
/-- A row of bytes of the call's own, no longer than so many. -/
def Btn (w : World) (B : Nat) (v : Value) (xs : List UInt8) (N : Nat) : Prop := Bt w B v xs ∧ xs.length ≤ N ∧ B ≤ w.heap.size
theorem Btn.hn {w : World} {B : Nat} {v : Value} {xs : List UInt8} {N : Nat} (h : Btn w B v xs N) : B ≤ w.heap.size := h.2.2
theorem Btn.below {w w' : World} {B : Nat} {v : Value} {xs : List UInt8} {N : Nat} (h : Btn w B v xs N) (hb : Below w.heap.size w w') : Btn w' B v xs N :=
  ⟨Tk.row_below h.1 hb, h.2.1, Nat.le_trans h.2.2 hb.size⟩
theorem Bt.three {w : World} {a b c : Nat} (ha : a < 256) (hb : b < 256) (hc : c < 256) : Bt (w.alloc (.cells #[.int .u8 a, .int .u8 b, .int .u8 c] 5)) w.heap.size (.slice (some ⟨w.heap.size, 0, none⟩) 3 3) [UInt8.ofNat a, UInt8.ofNat b, UInt8.ofNat c] := by
  have e : ∀ x, x < 256 → Sm.byteV (UInt8.ofNat x) = .int .u8 x := fun x hx => by unfold Sm.byteV; rw [Sm.ofNat_toNat, Nat.mod_eq_of_lt hx]
  refine ⟨rfl, .inr ⟨w.heap.size, 3, _, rfl, Nat.le_refl _, heap_alloc_new w _, Nat.le_refl _, by unfold maxLen; omega, rfl, ?_⟩⟩
  simp [e _ ha, e _ hb, e _ hc]
/-- A row of bytes, to a text. -/
theorem Bt.run {w : World} {B : Nat} {v : Value} {xs : List UInt8} (h : Bt w B v xs) (h0 : 0 < xs.length) : ∃ g cap, v = .slice (some ⟨g, 0, none⟩) xs.length cap ∧
    Sem.run Tryd.prog (convert 37 9 (.slice (some ⟨g, 0, none⟩) xs.length cap)) w = .ok (.string ⟨xs.toArray⟩) w := by
  obtain ⟨g, cap, rfl, hg1, hg2⟩ := h.own.form h0
  have hcs := h.own.cells (g := g) rfl
  refine ⟨g, cap, rfl, run_convert_bytes_back (P := Tryd.prog) w 37 9 5 ⟨g, 0, none⟩ cap xs Tryd.underlying37 Tryd.underlying5 Tryd.underlying9 ?_⟩
  intro j hj
  refine hcs j _ ?_
  rw [List.getElem?_map, List.getElem?_eq_getElem hj]
  rfl
end Ev
theorem putVar_n {B : Nat} {v : Value} {xs : List UInt8} {x N : Nat} {w : World} (h : Ev.Btn w B v xs N) (hx : x < 18446744073709551616) (hn : N ≤ 1000000000) :
    Calls Tryd.prog 21 #[v, .int .u64 x] w fun e w' => ∃ v', e = .returned v' ∧ Ev.Btn w' B v' (xs ++ Ev.var x) (N + 10) ∧ Below B w w' :=
  (putVar_any B v xs x hx (Nat.le_trans h.2.1 hn) w h.1 h.2.2).mono fun e w' ⟨v', he, hr, hb⟩ => ⟨v', he, ⟨hr, by rw [List.length_append]; have := (Ev.var_len x).2; have := h.2.1; omega, Nat.le_trans h.2.2 hb.size⟩, hb⟩
theorem text_n {B : Nat} {v : Value} {xs : List UInt8} {s : ByteArray} {N : Nat} {w : World} (h : Ev.Btn w B v xs N) (hs : N + s.size ≤ 1000000000) :
    Calls Tryd.prog 20 #[v, .string s] w fun e w' => ∃ v', e = .returned v' ∧ Ev.Btn w' B v' (xs ++ Ev.txt s) (N + s.size + 10) ∧ Below B w w' := by
  refine (text_any B v xs s (by omega) (Nat.le_trans h.2.1 (by omega)) w h.1 h.2.2).mono fun e w' ⟨v', he, hr, hb⟩ => ⟨v', he, ⟨hr, ?_, Nat.le_trans h.2.2 hb.size⟩, hb⟩
  have h1 := (Ev.var_len s.size).2
  have h2 := h.2.1
  have h3 : s.data.toList.length = s.size := by simp
  unfold Ev.txt
  rw [List.length_append, List.length_append]
  omega
theorem putBig_n {B : Nat} {v : Value} {xs : List UInt8} {x N : Nat} {w : World} (h : Ev.Btn w B v xs N) (hx : x < 18446744073709551616) (hn : N ≤ 1000000000) :
    Calls Tryd.prog 22 #[v, .int .u64 x, .int .i64 8] w fun e w' => ∃ v', e = .returned v' ∧ Ev.Btn w' B v' (xs ++ Ev.big x 8) (N + 8) ∧ Below B w w' :=
  (putBig_any B v xs x hx (Nat.le_trans h.2.1 hn) w h.1 h.2.2).mono fun e w' ⟨v', he, hr, hb⟩ => ⟨v', he, ⟨hr, by rw [List.length_append, Ev.big_len]; have := h.2.1; omega, Nat.le_trans h.2.2 hb.size⟩, hb⟩
theorem u64_wrap (n : Nat) (h : n < 18446744073709551616) : IntKind.u64.wrap (n : Int) = n := by
  rw [IntKind.wrap_u64]
  omega
theorem below_undrew {B : Nat} {a w : World} (h : Below B a.drew w) : Below B a w := ⟨h.os, h.tape, h.output, h.size, h.block⟩
theorem Ev.pack_no {l : Ev.Letter} (h : Ev.right l = false) : Ev.pack l = (ByteArray.empty, 1) := by unfold Ev.pack; rw [h]; rfl
theorem Ev.pack_yes {l : Ev.Letter} (h : Ev.right l = true) : Ev.pack l = (⟨(Ev.bytes l).toArray⟩, 0) := by unfold Ev.pack; rw [h]; rfl
theorem Ev.right_facts {l : Ev.Letter} (h : Ev.right l = true) : 0 ≤ l.from_ ∧ l.from_ < 4 ∧ 0 ≤ l.to_ ∧ l.to_ < 4 ∧ 0 ≤ l.code ∧ l.code ≤ 999 ∧ l.kind < 5 ∧ l.key.size ≤ 64 ∧ l.body.size ≤ 4096 := by
  unfold Ev.right Ev.peer at h
  grind
set_option maxRecDepth 100000 in
set_option maxHeartbeats 8000000 in
theorem pack_any (l : Ev.Letter) (hl : l.ok) (h6 : l.svc.size ≤ 10000 ∧ l.mth.size ≤ 10000) (w : World) (hk : Tk.KW w) :
    Calls Tryd.prog 11 #[l.val] w fun e w' => e = .returned (.tuple #[.string (Ev.pack l).1, .int .i64 (Ev.pack l).2]) ∧ Below w.heap.size w w' := by
  have HR0 := right_any l
  cases hr : Ev.right l
  · have HP := Lib.hid (Ev.pack_no hr)
    have HR := Lib.hid hr
    clear hr
    rw [HP.out]
    obtain ⟨k0, k1, k2, k3, k4, k5, k6, k7, k8, k9⟩ := l
    unfold Ev.Letter.val at HR0 ⊢
    have HR1 := Lib.hid HR0
    clear HR0
    go_enter Tryd.func11, Tryd.ntmps11
    go_wp2_with fail
    refine (HR1.out _ (hk.below ((Below.refl _ _).alloc (Nat.le_refl _) _))).mono ?_
    rintro e w1 ⟨rfl, hb1⟩
    simp only [World.size_alloc] at hb1
    rw [HR.out]
    go_wp2_with fail
    go_ret2
    exact ⟨rfl, ((Below.refl w.heap.size w).alloc (Nat.le_refl _) _).trans (hb1.mono (by omega))⟩
  · have HP := Lib.hid (Ev.pack_yes hr)
    have HR := Lib.hid hr
    obtain ⟨f1, f2, f3, f4, f5, f6, f7, f8, f9⟩ := Ev.right_facts hr
    clear hr
    rw [HP.out]
    obtain ⟨k0, k1, k2, k3, k4, k5, k6, k7, k8, k9⟩ := l
    obtain ⟨g1, g2, g3⟩ := hl
    obtain ⟨g4, g5⟩ := h6
    simp only at f1 f2 f3 f4 f5 f6 f7 f8 f9 g1 g2 g3 g4 g5
    obtain ⟨k1, rfl⟩ := Int.eq_ofNat_of_zero_le f1
    obtain ⟨k2, rfl⟩ := Int.eq_ofNat_of_zero_le f3
    obtain ⟨k8, rfl⟩ := Int.eq_ofNat_of_zero_le f5
    unfold Ev.Letter.val at HR0 ⊢
    have HR1 := Lib.hid HR0
    have HB : Hid (Ev.bytes ⟨k0, k1, k2, k3, k4, k5, k6, k7, k8, k9⟩ = ((((((([UInt8.ofNat k0, UInt8.ofNat k1, UInt8.ofNat k2] ++ Ev.var k3) ++ Ev.txt k4) ++ Ev.big k5 8) ++ Ev.txt k6) ++ Ev.txt k7) ++ Ev.var k8) ++ Ev.txt k9) ++ Sm.le4 (Sm.crc ((((((([UInt8.ofNat k0, UInt8.ofNat k1, UInt8.ofNat k2] ++ Ev.var k3) ++ Ev.txt k4) ++ Ev.big k5 8) ++ Ev.txt k6) ++ Ev.txt k7) ++ Ev.var k8) ++ Ev.txt k9))) := Lib.hid rfl
    clear HR0
    go_enter Tryd.func11, Tryd.ntmps11
    go_wp2_with fail
    refine (HR1.out _ (hk.below ((Below.refl _ _).alloc (Nat.le_refl _) _))).mono ?_
    rintro e w1 ⟨rfl, hb1⟩
    simp only [World.size_alloc] at hb1
    rw [HR.out]
    have hz1 := hb1.size
    simp only [World.size_alloc] at hz1
    have hcell := (bcell' hb1).1
    have c0 : w1.cell? ⟨w.heap.size, 0, none⟩ = some (.int .u8 k0) := (hcell _ _ (by omega)).trans (by simp)
    have c1 : w1.cell? ⟨w.heap.size, 1, none⟩ = some (.int .i64 k1) := (hcell _ _ (by omega)).trans (by simp)
    have c2 : w1.cell? ⟨w.heap.size, 2, none⟩ = some (.int .i64 k2) := (hcell _ _ (by omega)).trans (by simp)
    have c3 : w1.cell? ⟨w.heap.size, 3, none⟩ = some (.int .u64 k3) := (hcell _ _ (by omega)).trans (by simp)
    have c4 : w1.cell? ⟨w.heap.size, 4, none⟩ = some (.string k4) := (hcell _ _ (by omega)).trans (by simp)
    have c5 : w1.cell? ⟨w.heap.size, 5, none⟩ = some (.int .u64 k5) := (hcell _ _ (by omega)).trans (by simp)
    have c6 : w1.cell? ⟨w.heap.size, 6, none⟩ = some (.string k6) := (hcell _ _ (by omega)).trans (by simp)
    have c7 : w1.cell? ⟨w.heap.size, 7, none⟩ = some (.string k7) := (hcell _ _ (by omega)).trans (by simp)
    have c8 : w1.cell? ⟨w.heap.size, 8, none⟩ = some (.int .i64 k8) := (hcell _ _ (by omega)).trans (by simp)
    have c9 : w1.cell? ⟨w.heap.size, 9, none⟩ = some (.string k9) := (hcell _ _ (by omega)).trans (by simp)
    clear hcell
    have hlt : w.heap.size < w1.heap.size := by omega
    go_wp2_with fail
    have h0 : Ev.Btn _ _ _ _ 3 := ⟨Ev.Bt.three (w := w1) g1 (show k1 < 256 by omega) (show k2 < 256 by omega), by simp, by simp⟩
    have hb2 : Below w1.heap.size w1 (w1.alloc (.cells #[.int .u8 k0, .int .u8 k1, .int .u8 k2] 5)) := (Below.refl _ _).alloc (Nat.le_refl _) _
    have hcell := (bcell' hb2).1
    replace c3 := (hcell _ _ hlt).trans c3
    replace c4 := (hcell _ _ hlt).trans c4
    replace c5 := (hcell _ _ hlt).trans c5
    replace c6 := (hcell _ _ hlt).trans c6
    replace c7 := (hcell _ _ hlt).trans c7
    replace c8 := (hcell _ _ hlt).trans c8
    replace c9 := (hcell _ _ hlt).trans c9
    clear hcell c0 c1 c2
    generalize (w1.alloc (.cells #[.int .u8 k0, .int .u8 k1, .int .u8 k2] 5)) = w2 at *
    generalize [UInt8.ofNat k0, UInt8.ofNat k1, UInt8.ofNat k2] = xs at *
    go_region_held3 (fun w' => w'.cell? ⟨w.heap.size, 3, none⟩ = some (.int .u64 k3) ∧ w'.cell? ⟨w.heap.size, 4, none⟩ = some (.string k4))
      (first | go_keep | (go_split_ands; refine ⟨?_, ?_⟩ <;> ((first | rw [hb4.cell (p := ⟨w.heap.size, _, none⟩) hlt] | rw [hb3.cell (p := ⟨w.heap.size, _, none⟩) hlt]); simp [*])))
      (first | (go_at_call 21; refine (putVar_n (by assumption) (by omega) (by omega)).mono ?_; rintro e w3 ⟨v3, rfl, h3, hb3⟩) | (go_at_call 20; refine (text_n (by assumption) (by omega)).mono ?_; rintro e w4 ⟨v4, rfl, h4, hb4⟩))
    have hq := (bcell' (hb3.trans hb4)).1
    replace c5 := (hq _ _ hlt).trans c5
    replace c6 := (hq _ _ hlt).trans c6
    replace c7 := (hq _ _ hlt).trans c7
    replace c8 := (hq _ _ hlt).trans c8
    replace c9 := (hq _ _ hlt).trans c9
    have hbA : Below w1.heap.size w1 w4 := hb2.trans (below_undrew (hb3.trans hb4))
    clear hq h3 hb3 hb4 hb2 c3 c4
    generalize xs ++ Ev.var k3 ++ Ev.txt k4 = ys at *
    go_wp2_with fail
    refine (putBig_n h4 (by omega) (by omega)).mono ?_
    rintro e w5 ⟨v5, rfl, h5, hb5⟩
    have hq := (bcell' hb5).1
    replace c6 := (hq _ _ hlt).trans c6
    replace c7 := (hq _ _ hlt).trans c7
    replace c8 := (hq _ _ hlt).trans c8
    replace c9 := (hq _ _ hlt).trans c9
    have hbB : Below w1.heap.size w1 w5 := hbA.trans hb5
    clear hq h4 hbA hb5 c5
    generalize ys ++ Ev.big k5 8 = zs at *
    go_wp2_with fail
    go_region_held3 (fun w' => w'.cell? ⟨w.heap.size, 6, none⟩ = some (.string k6) ∧ w'.cell? ⟨w.heap.size, 7, none⟩ = some (.string k7))
      (first | go_keep | (go_split_ands; refine ⟨?_, ?_⟩ <;> ((first | rw [hb4.cell (p := ⟨w.heap.size, _, none⟩) hlt] | rw [hb3.cell (p := ⟨w.heap.size, _, none⟩) hlt]); simp [*])))
      (first | (go_at_call_of 20 (Value.string k6); refine (text_n (by assumption) (by omega)).mono ?_; rintro e w3 ⟨v3, rfl, h3, hb3⟩) | (go_at_call_of 20 (Value.string k7); refine (text_n (by assumption) (by omega)).mono ?_; rintro e w4 ⟨v4, rfl, h4, hb4⟩))
    have hq := (bcell' (below_undrew (hb3.trans hb4))).1
    replace c8 := (hq _ _ hlt).trans c8
    replace c9 := (hq _ _ hlt).trans c9
    have hbC : Below w1.heap.size w1 w4 := hbB.trans (below_undrew (hb3.trans hb4))
    clear hq h3 hb3 hb4 hbB c6 c7
    generalize zs ++ Ev.txt k6 ++ Ev.txt k7 = us at *
    go_wp2_with fail
    have hwr := u64_wrap k8 (by omega)
    go_region_held3 (fun w' => w'.cell? ⟨w.heap.size, 8, none⟩ = some (.int .i64 k8) ∧ w'.cell? ⟨w.heap.size, 9, none⟩ = some (.string k9))
      (first | go_keep | (go_split_ands; refine ⟨?_, ?_⟩ <;> ((first | rw [hb7.cell (p := ⟨w.heap.size, _, none⟩) hlt] | rw [hb6.cell (p := ⟨w.heap.size, _, none⟩) hlt]); simp [*])))
      (first | (go_at_call 21; refine (putVar_n (by assumption) (by omega) (by omega)).mono ?_; rintro e w6 ⟨v6, rfl, h6, hb6⟩) | (go_at_call 20; refine (text_n (by assumption) (by omega)).mono ?_; rintro e w7 ⟨v7, rfl, h7, hb7⟩))
    have hbD : Below w1.heap.size w1 w7 := hbC.trans (below_undrew (hb6.trans hb7))
    clear h6 hb6 hb7 hbC c8 c9 hwr
    have hpos : 0 < (us ++ Ev.var k8 ++ Ev.txt k9).length := by have := (Ev.var_len k8).1; rw [List.length_append, List.length_append]; omega
    generalize us ++ Ev.var k8 ++ Ev.txt k9 = ts at *
    obtain ⟨g, cap, rfl, hrun⟩ := h7.1.run hpos
    have hts := h7.2.1
    go_wp2_with fail
    have hcl := Sm.crc_lt ts
    refine (crc_any ⟨ts.toArray⟩ (by show ts.toArray.size ≤ _; rw [List.size_toArray]; unfold maxLen; omega) _).mono ?_
    rintro e w8 ⟨rfl, hb8⟩
    have h8 := h7.below hb8
    have hbE : Below w1.heap.size w1 w8 := hbD.trans (hb8.mono h7.2.2)
    clear hrun
    show match Ending.returned (Value.int IntKind.u32 ↑(Sm.crc ts)), w8 with
      | _, _ => _
    go_wp2_with fail
    refine (putLittle_any w1.heap.size _ ts (Sm.crc ts) hcl (by omega) _ h8.1 h8.2.2).mono ?_
    rintro e w9 ⟨v9, rfl, h9, hb9⟩
    obtain ⟨g9, cap9, rfl, hrun⟩ := h9.run (by rw [List.length_append]; omega)
    have HB2 : Hid (_ = ts ++ Sm.le4 (Sm.crc ts)) := HB
    clear HB
    generalize ts ++ Sm.le4 (Sm.crc ts) = rs at *
    go_wp2_with fail
    go_ret2
    exact ⟨by rw [HB2.out]; rfl, ((Below.refl w.heap.size w).alloc (Nat.le_refl _) _).trans ((hb1.trans ((hbE.trans hb9).mono hz1)).mono (by omega))⟩
end Go.Proofs.YtjhejnhjpjmnmaaDoor
