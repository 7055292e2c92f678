/- CheckOwn: had a schema such parts itself? (printed by gen_own.py). No condition. -/
import Derived.Test.YtnnkppeafnpdcaaDoorChkFewer
set_option linter.unusedVariables false
set_option linter.unusedSimpArgs false
namespace Go.Proofs.YtnnkppeafnpdcaaDoor
open Go.RowKit Go.BigFrame
namespace Chk
open Go.Proofs.YtnnkppeafnpdcaaDoor.Id
def ovF (y : Fld) : Bool := y.name.toList == [120, 33]
def ovR (r : Rec) : Bool := r.fields.any ovF
def ovS (p : Stp) : Bool := p.at_ == -7
def ovG (g : Sag) : Bool := g.steps.any ovS
def over (x : Sch) : Bool := x.records.any ovR || x.sagas.any ovG
end Chk
set_option maxRecDepth 100000 in
set_option maxHeartbeats 16000000 in
theorem cover_any (v : Value) (x : Id.Sch) (w : World) (hv : Id.SchV w none v x) :
    Calls Tryd.prog 20 #[v] w fun e w' => e = .returned (.bool (Chk.over x)) ∧ Below w.heap.size w w' := by
  have HV := Lib.hid hv
  obtain ⟨A1, n1, c1, A2, n2, c2, A3, n3, c3, rfl, r1, r2, r3⟩ := hv
  have HN1 : Hid (n1 = x.records.length) := Lib.hid (by obtain ⟨_, _, e, _⟩ := ERow.slice r1; injection e)
  have hm1 : n1 ≤ 9223372036854775807 := by obtain ⟨_, _, e, _, _⟩ := ERow.slice r1; injection e; omega
  have H1 := Lib.hid r1
  have HN2 : Hid (n2 = x.services.length) := Lib.hid (by obtain ⟨_, _, e, _⟩ := ERow.slice r2; injection e)
  have hm2 : n2 ≤ 9223372036854775807 := by obtain ⟨_, _, e, _, _⟩ := ERow.slice r2; injection e; omega
  have H2 := Lib.hid r2
  have HN3 : Hid (n3 = x.sagas.length) := Lib.hid (by obtain ⟨_, _, e, _⟩ := ERow.slice r3; injection e)
  have hm3 : n3 ≤ 9223372036854775807 := by obtain ⟨_, _, e, _, _⟩ := ERow.slice r3; injection e; omega
  have H3 := Lib.hid r3
  clear r1 r2 r3
  obtain ⟨R, HR⟩ : ∃ R, Hid (Chk.over x = R) := ⟨_, Lib.hid rfl⟩
  rw [HR.out]
  go_enter Tryd.func20, Tryd.ntmps20
  go_upto_region 1 with (fail)
  refine wp_named (fun V hV => ?_)
  have HL := Lib.hid (Chk.Lx.start hV)
  clear hV
  obtain ⟨⟨q0, q1, q2, q3⟩, -⟩ := HL.out.box.k4
  go_wp2_with fail
  go_loopw [3] (fun i wr => ∃ (z : Nat), z ≤ n1 ∧ i = .int .i64 z ∧ V = wr ∧ Hid (R = ((x.records.drop z).any Chk.ovR || x.sagas.any Chk.ovG))) (fun i _ => n1 - (intOf i).toNat)
  case atStart => exact ⟨0, by omega, rfl, rfl, Lib.hid (HR.out.symm)⟩
  case round =>
    obtain ⟨k, hkk, rfl, rfl, HI⟩ := hrel
    have ik0 : (0 : Int) ≤ (k : Int) := by omega
    by_cases hlt : k < n1
    case neg =>
      go_wp2_with fail
      have HI1 := HI
      clear HI
      go_loopw [5] (fun i wr => ∃ (z : Nat), z ≤ n3 ∧ i = .int .i64 z ∧ V = wr ∧ Hid (R = (x.sagas.drop z).any Chk.ovG)) (fun i _ => n3 - (intOf i).toNat)
      case atStart => exact ⟨0, by omega, rfl, rfl, Lib.hid (by have h := HI1.out; rw [List.drop_of_length_le (by have := HN1.out; omega)] at h; exact h)⟩
      case round =>
        obtain ⟨k, hkk, rfl, rfl, HI⟩ := hrel
        have ik0 : (0 : Int) ≤ (k : Int) := by omega
        by_cases hlt : k < n3
        case neg =>
          have hR : R = false := by have h := HI.out; rw [List.drop_of_length_le (by have := HN3.out; omega)] at h; exact h
          subst hR
          go_wp2_with fail
          go_ret
          exact ⟨rfl, HL.out.bel⟩
        have hkak : k < x.sagas.length := by rw [← HN3.out]; exact hlt
        obtain ⟨g1, off1, cs, rfl, -, ⟨u, he, HU⟩, hc⟩ := ERow.get H3.out hkak (by omega)
        obtain ⟨r, Hr⟩ : ∃ r, Hid (x.sagas[k] = r) := ⟨_, Lib.hid rfl⟩
        rw [Hr.out] at he HU
        obtain ⟨rn, ra, rf⟩ := r
        subst he
        simp only at HU hc
        obtain ⟨A5, n5, c5, rfl⟩ := ERow.is HU
        have HN5 : Hid (n5 = rf.length) := Lib.hid (by obtain ⟨_, _, e, _⟩ := ERow.slice HU; injection e)
        have hm5 : n5 ≤ 9223372036854775807 := by obtain ⟨_, _, e, _, _⟩ := ERow.slice HU; injection e; omega
        have H5 := Lib.hid HU
        have HDk : Hid (x.sagas.drop k = ⟨rn, ra, rf⟩ :: x.sagas.drop (k + 1)) := Lib.hid (by rw [List.drop_eq_getElem_cons hkak, Hr.out])
        have b0 := hc 0 _ rfl
        have b1 := hc 1 _ rfl
        have b2 := hc 2 _ rfl
        simp only [Nat.add_zero] at b0
        have hgl1 : g1 < w.heap.size := World.block_lt_of_cell? w _ b0
        have b0 := (HL.out.bel.cell hgl1).trans b0
        have b1 := (HL.out.bel.cell hgl1).trans b1
        have b2 := (HL.out.bel.cell hgl1).trans b2
        have i11 : (k : Int) < (n3 : Int) := by omega
        clear hc HU Hr
        go_wp2_with fail
        go_loopw [6] (fun i wr => ∃ (z : Nat), z ≤ n5 ∧ i = .int .i64 z ∧ V = wr ∧ Hid (R = ((rf.drop z).any Chk.ovS || (x.sagas.drop (k + 1)).any Chk.ovG))) (fun i _ => n5 - (intOf i).toNat)
        case atStart => exact ⟨0, by omega, rfl, rfl, Lib.hid (by have h := HI.out; rw [HDk.out, List.any_cons] at h; exact h)⟩
        case round =>
          obtain ⟨j, hkj, rfl, rfl, HJ⟩ := hrel
          have ij0 : (0 : Int) ≤ (j : Int) := by omega
          by_cases hlj : j < n5
          case neg =>
            go_wp2_with fail
            go_roundw
            case rel => exact ⟨k + 1, by omega, by go_num, by first | rfl | trivial, Lib.hid (by have h := HJ.out; rw [List.drop_of_length_le (by have := HN5.out; omega)] at h; exact h)⟩
            case measure => simp [intOf]; omega
          have hkbj : j < rf.length := by rw [← HN5.out]; exact hlj
          obtain ⟨g2, off2, cs, rfl, -, he, hc⟩ := ERow.get H5.out hkbj (by omega)
          obtain ⟨r, Hr⟩ : ∃ r, Hid (rf[j] = r) := ⟨_, Lib.hid rfl⟩
          rw [Hr.out] at he
          obtain ⟨p0, p1, p2⟩ := r
          unfold Id.StpE Id.Stp.cells at he
          subst he
          have HDj : Hid (rf.drop j = ⟨p0, p1, p2⟩ :: rf.drop (j + 1)) := Lib.hid (by rw [List.drop_eq_getElem_cons hkbj, Hr.out])
          have a0 := hc 0 _ rfl
          have a1 := hc 1 _ rfl
          have a2 := hc 2 _ rfl
          simp only [Nat.add_zero] at a0
          have hgl2 : g2 < w.heap.size := World.block_lt_of_cell? w _ a0
          have a0 := (HL.out.bel.cell hgl2).trans a0
          have a1 := (HL.out.bel.cell hgl2).trans a1
          have a2 := (HL.out.bel.cell hgl2).trans a2
          have i21 : (j : Int) < (n5 : Int) := by omega
          clear hc Hr
          have HJ2 := HJ.out
          rw [HDj.out, List.any_cons] at HJ2
          cases ht : (p2 == -7)
          case true =>
            have hR : R = true := by rw [HJ2, show Chk.ovS ⟨p0, p1, p2⟩ = true from ht]; rfl
            clear HJ2
            subst hR
            go_wp2_with fail
            go_ret
            exact ⟨rfl, HL.out.bel⟩
          case false =>
            have HJ3 := Lib.hid HJ2
            clear HJ2
            go_wp2_with fail
            go_roundw
            case rel => exact ⟨j + 1, by omega, by go_num, by first | rfl | trivial, Lib.hid (by have h := HJ3.out; rw [show Chk.ovS ⟨p0, p1, p2⟩ = false from ht] at h; exact h)⟩
            case measure => simp [intOf]; omega
    have hkak : k < x.records.length := by rw [← HN1.out]; exact hlt
    obtain ⟨g1, off1, cs, rfl, -, ⟨u, he, HU⟩, hc⟩ := ERow.get H1.out hkak (by omega)
    obtain ⟨r, Hr⟩ : ∃ r, Hid (x.records[k] = r) := ⟨_, Lib.hid rfl⟩
    rw [Hr.out] at he HU
    obtain ⟨rn, rc, rf⟩ := r
    subst he
    simp only at HU hc
    obtain ⟨A5, n5, c5, rfl⟩ := ERow.is HU
    have HN5 : Hid (n5 = rf.length) := Lib.hid (by obtain ⟨_, _, e, _⟩ := ERow.slice HU; injection e)
    have hm5 : n5 ≤ 9223372036854775807 := by obtain ⟨_, _, e, _, _⟩ := ERow.slice HU; injection e; omega
    have H5 := Lib.hid HU
    have HDk : Hid (x.records.drop k = ⟨rn, rc, rf⟩ :: x.records.drop (k + 1)) := Lib.hid (by rw [List.drop_eq_getElem_cons hkak, Hr.out])
    have b0 := hc 0 _ rfl
    have b1 := hc 1 _ rfl
    have b2 := hc 2 _ rfl
    simp only [Nat.add_zero] at b0
    have hgl1 : g1 < w.heap.size := World.block_lt_of_cell? w _ b0
    have b0 := (HL.out.bel.cell hgl1).trans b0
    have b1 := (HL.out.bel.cell hgl1).trans b1
    have b2 := (HL.out.bel.cell hgl1).trans b2
    have i11 : (k : Int) < (n1 : Int) := by omega
    clear hc HU Hr
    go_wp2_with fail
    go_loopw [4] (fun i wr => ∃ (z : Nat), z ≤ n5 ∧ i = .int .i64 z ∧ V = wr ∧ Hid (R = ((rf.drop z).any Chk.ovF || ((x.records.drop (k + 1)).any Chk.ovR || x.sagas.any Chk.ovG)))) (fun i _ => n5 - (intOf i).toNat)
    case atStart => exact ⟨0, by omega, rfl, rfl, Lib.hid (by have h := HI.out; rw [HDk.out, List.any_cons, Bool.or_assoc] at h; exact h)⟩
    case round =>
      obtain ⟨j, hkj, rfl, rfl, HJ⟩ := hrel
      have ij0 : (0 : Int) ≤ (j : Int) := by omega
      by_cases hlj : j < n5
      case neg =>
        go_wp2_with fail
        go_roundw
        case rel => exact ⟨k + 1, by omega, by go_num, by first | rfl | trivial, Lib.hid (by have h := HJ.out; rw [List.drop_of_length_le (by have := HN5.out; omega)] at h; exact h)⟩
        case measure => simp [intOf]; omega
      have hkbj : j < rf.length := by rw [← HN5.out]; exact hlj
      obtain ⟨g2, off2, cs, rfl, -, ⟨u, he, HU⟩, hc⟩ := ERow.get H5.out hkbj (by omega)
      obtain ⟨r, Hr⟩ : ∃ r, Hid (rf[j] = r) := ⟨_, Lib.hid rfl⟩
      rw [Hr.out] at he HU
      obtain ⟨yn, yt⟩ := r
      subst he
      simp only at HU hc
      obtain ⟨A7, n7, c7, rfl⟩ := ERow.is HU
      have HN7 : Hid (n7 = yt.length) := Lib.hid (by obtain ⟨_, _, e, _⟩ := ERow.slice HU; injection e)
      have hm7 : n7 ≤ 9223372036854775807 := by obtain ⟨_, _, e, _, _⟩ := ERow.slice HU; injection e; omega
      have H7 := Lib.hid HU
      clear HU
      have HDj : Hid (rf.drop j = ⟨yn, yt⟩ :: rf.drop (j + 1)) := Lib.hid (by rw [List.drop_eq_getElem_cons hkbj, Hr.out])
      have a0 := hc 0 _ rfl
      have a1 := hc 1 _ rfl
      simp only [Nat.add_zero] at a0
      have hgl2 : g2 < w.heap.size := World.block_lt_of_cell? w _ a0
      have a0 := (HL.out.bel.cell hgl2).trans a0
      have a1 := (HL.out.bel.cell hgl2).trans a1
      have i21 : (j : Int) < (n5 : Int) := by omega
      clear hc Hr
      have HJ2 := HJ.out
      rw [HDj.out, List.any_cons] at HJ2
      cases ht : (yn.toList == [120, 33])
      case true =>
        have hR : R = true := by rw [HJ2, show Chk.ovF ⟨yn, yt⟩ = true from ht]; rfl
        clear HJ2
        subst hR
        go_wp2_with fail
        go_ret
        exact ⟨rfl, HL.out.bel⟩
      case false =>
        have HJ3 := Lib.hid HJ2
        clear HJ2
        go_wp2_with fail
        go_roundw
        case rel => exact ⟨j + 1, by omega, by go_num, by first | rfl | trivial, Lib.hid (by have h := HJ3.out; rw [show Chk.ovF ⟨yn, yt⟩ = false from ht] at h; exact h)⟩
        case measure => simp [intOf]; omega
end Go.Proofs.YtnnkppeafnpdcaaDoor
