/- redressref13: names (printed by gen_rchk1.py). No condition. -/
import Derived.Test.YtmncppnpppdfkaaGreatDoorPTChkDoc
import Derived.Test.YtmncppnpppdfkaaGreatDoorPTChkFewer
set_option linter.unusedVariables false
set_option linter.unusedSimpArgs false
namespace Go.Proofs.YtmncppnpppdfkaaGreatDoor
open Go.RowKit Go.BigFrame
namespace Chk
open Go.Proofs.YtmncppnpppdfkaaGreatDoor.Id
def ansV (o : Option ByteArray) : Value := .tuple #[.string (o.getD ⟨#[]⟩), .bool o.isNone]
end Chk
theorem rname_s (s : ByteArray) (w : World) : Calls Tryz.prog 153 #[.string s] w fun e w' => e = .returned (.bool (Tk.isName s)) ∧ w = w' := (rname_any s w).mono fun _ _ ⟨h1, h2⟩ => ⟨h1, h2.symm⟩
set_option maxRecDepth 100000 in
set_option maxHeartbeats 16000000 in
theorem rnames_any (v : Value) (x : Id.Sch) (w : World) (hv : Id.SchV w none v x) :
    Calls Tryz.prog 96 #[v] w fun e w' => e = .returned (Chk.ansV (Chk.firstF (Chk.namesT x))) ∧ Below w.heap.size w w' := by
  have HV := Lib.hid hv
  obtain ⟨A1, n1, c1, A2, n2, c2, A3, n3, c3, rfl, r1, r2, r3⟩ := hv
  have HN1 : Hid (n1 = x.records.length) := Lib.hid (by obtain ⟨_, _, e, _⟩ := ERow.slice r1; injection e)
  have hm1 : n1 ≤ 9223372036854775807 := by obtain ⟨_, _, e, _, _⟩ := ERow.slice r1; injection e; omega
  have H1 := Lib.hid r1
  have HN2 : Hid (n2 = x.services.length) := Lib.hid (by obtain ⟨_, _, e, _⟩ := ERow.slice r2; injection e)
  have hm2 : n2 ≤ 9223372036854775807 := by obtain ⟨_, _, e, _, _⟩ := ERow.slice r2; injection e; omega
  have H2 := Lib.hid r2
  have HN3 : Hid (n3 = x.sagas.length) := Lib.hid (by obtain ⟨_, _, e, _⟩ := ERow.slice r3; injection e)
  have hm3 : n3 ≤ 9223372036854775807 := by obtain ⟨_, _, e, _, _⟩ := ERow.slice r3; injection e; omega
  have H3 := Lib.hid r3
  clear r1 r2 r3
  obtain ⟨R, HR⟩ : ∃ R, Hid (Chk.firstF (Chk.namesT x) = R) := ⟨_, Lib.hid rfl⟩
  rw [HR.out]
  unfold Chk.namesT at HR
  go_enter Tryz.func96, Tryz.ntmps96
  go_upto_region 1 with (fail)
  refine wp_named (fun V hV => ?_)
  have HL := Lib.hid (Chk.Lx.start hV)
  clear hV
  obtain ⟨⟨q0, q1, q2, q3⟩, -⟩ := HL.out.box.k4
  go_wp2_with fail
  refine (rname_s x.name _).mono ?_
  rintro e W2 ⟨rfl, rfl⟩
  cases hn : Tk.isName x.name
  case false =>
    have HE : Hid (R = some ⟨#[]⟩) := Lib.hid (by rw [← HR.out]; exact Chk.firstF_f hn)
    go_wp2_with fail
    go_ret2
    exact ⟨by rw [HE.out]; rfl, HL.out.bel⟩
  have HT : Hid (_ = R) := Lib.hid ((Chk.firstF_t hn).symm.trans HR.out)
  clear HR
  go_wp2_with fail
  go_loopw [4] (fun i wr => ∃ (z : Nat), z ≤ n1 ∧ i = .int .i64 z ∧ V = wr ∧ Hid (Chk.firstF ((x.records.drop z).flatMap Chk.namesR ++ (x.services.flatMap Chk.namesV ++ x.sagas.flatMap Chk.namesG)) = R)) (fun i _ => n1 - (intOf i).toNat)
  case atStart => exact ⟨0, by omega, rfl, rfl, Lib.hid (HT.out)⟩
  case round =>
    obtain ⟨k, hkk, rfl, rfl, HI⟩ := hrel
    have ik0 : (0 : Int) ≤ (k : Int) := by omega
    by_cases hlt : k < n1
    case neg =>
      have HI1 : Hid (Chk.firstF ((x.services.flatMap Chk.namesV ++ x.sagas.flatMap Chk.namesG)) = R) := Lib.hid (by have h := HI.out; rw [List.drop_of_length_le (by have := HN1.out; omega)] at h; exact h)
      clear HI
      go_wp2_with fail
      go_loopw [6] (fun i wr => ∃ (z : Nat), z ≤ n2 ∧ i = .int .i64 z ∧ V = wr ∧ Hid (Chk.firstF ((x.services.drop z).flatMap Chk.namesV ++ x.sagas.flatMap Chk.namesG) = R)) (fun i _ => n2 - (intOf i).toNat)
      case atStart => exact ⟨0, by omega, rfl, rfl, Lib.hid (HI1.out)⟩
      case round =>
        obtain ⟨k, hkk, rfl, rfl, HI⟩ := hrel
        have ik0 : (0 : Int) ≤ (k : Int) := by omega
        by_cases hlt : k < n2
        case neg =>
          have HI1 : Hid (Chk.firstF (x.sagas.flatMap Chk.namesG) = R) := Lib.hid (by have h := HI.out; rw [List.drop_of_length_le (by have := HN2.out; omega)] at h; exact h)
          clear HI
          go_wp2_with fail
          have HI0 := HI1
          clear HI1
          go_loopw [8] (fun i wr => ∃ (z : Nat), z ≤ n3 ∧ i = .int .i64 z ∧ V = wr ∧ Hid (Chk.firstF ((x.sagas.drop z).flatMap Chk.namesG ++ []) = R)) (fun i _ => n3 - (intOf i).toNat)
          case atStart => exact ⟨0, by omega, rfl, rfl, Lib.hid (by have h := HI0.out; rw [← List.append_nil (List.flatMap _ _)] at h; exact h)⟩
          case round =>
            obtain ⟨k, hkk, rfl, rfl, HI⟩ := hrel
            have ik0 : (0 : Int) ≤ (k : Int) := by omega
            by_cases hlt : k < n3
            case neg =>
              have HI1 : Hid (Chk.firstF ([]) = R) := Lib.hid (by have h := HI.out; rw [List.drop_of_length_le (by have := HN3.out; omega)] at h; exact h)
              clear HI
              have HE : Hid (R = none) := Lib.hid HI1.out.symm
              go_wp2_with fail
              go_ret2
              exact ⟨by rw [HE.out]; rfl, HL.out.bel⟩
            have hkak : k < x.sagas.length := by rw [← HN3.out]; exact hlt
            obtain ⟨g1, off1, cs, rfl, -, ⟨u, he, HU⟩, hc⟩ := ERow.get H3.out hkak (by omega)
            obtain ⟨r, Hr⟩ : ∃ r, Hid (x.sagas[k] = r) := ⟨_, Lib.hid rfl⟩
            rw [Hr.out] at he HU
            obtain ⟨rn, ra, rf⟩ := r
            subst he
            simp only at HU hc
            obtain ⟨A5, n5, c5, rfl⟩ := ERow.is HU
            have HN5 : Hid (n5 = rf.length) := Lib.hid (by obtain ⟨_, _, e, _⟩ := ERow.slice HU; injection e)
            have hm5 : n5 ≤ 9223372036854775807 := by obtain ⟨_, _, e, _, _⟩ := ERow.slice HU; injection e; omega
            have H5 := Lib.hid HU
            have HDk : Hid (x.sagas.drop k = ⟨rn, ra, rf⟩ :: x.sagas.drop (k + 1)) := Lib.hid (by rw [List.drop_eq_getElem_cons hkak, Hr.out])
            have b0 := hc 0 _ rfl
            have b1 := hc 1 _ rfl
            have b2 := hc 2 _ rfl
            simp only [Nat.add_zero] at b0
            have hgl1 : g1 < w.heap.size := World.block_lt_of_cell? w _ b0
            have b0 := (HL.out.bel.cell hgl1).trans b0
            have b1 := (HL.out.bel.cell hgl1).trans b1
            have b2 := (HL.out.bel.cell hgl1).trans b2
            have i11 : (k : Int) < (n3 : Int) := by omega
            clear hc HU Hr
            have HT0 : Hid (Chk.firstF ((Tk.isName rn, rn) :: (((x.sagas.drop (k + 1)).flatMap Chk.namesG ++ []))) = R) := Lib.hid (by have h := HI.out; rw [HDk.out, List.flatMap_cons] at h; exact h)
            clear HI
            go_wp2_with fail
            refine (rname_s rn _).mono ?_
            rintro e W2 ⟨rfl, rfl⟩
            cases hn : Tk.isName rn
            case false =>
              have HE : Hid (R = some rn) := Lib.hid (by rw [← HT0.out]; exact Chk.firstF_f hn)
              go_wp2_with fail
              go_ret2
              exact ⟨by rw [HE.out]; rfl, HL.out.bel⟩
            have HT : Hid (_ = R) := Lib.hid ((Chk.firstF_t hn).symm.trans HT0.out)
            clear HT0
            go_wp2_with fail
            go_roundw
            case rel => exact ⟨k + 1, by omega, by go_num, by first | rfl | trivial, Lib.hid (HT.out)⟩
            case measure => simp [intOf]; omega
        have hkak : k < x.services.length := by rw [← HN2.out]; exact hlt
        obtain ⟨g1, off1, cs, rfl, -, ⟨u, he, HU⟩, hc⟩ := ERow.get H2.out hkak (by omega)
        obtain ⟨r, Hr⟩ : ∃ r, Hid (x.services[k] = r) := ⟨_, Lib.hid rfl⟩
        rw [Hr.out] at he HU
        obtain ⟨rn, rf⟩ := r
        subst he
        simp only at HU hc
        obtain ⟨A5, n5, c5, rfl⟩ := ERow.is HU
        have HN5 : Hid (n5 = rf.length) := Lib.hid (by obtain ⟨_, _, e, _⟩ := ERow.slice HU; injection e)
        have hm5 : n5 ≤ 9223372036854775807 := by obtain ⟨_, _, e, _, _⟩ := ERow.slice HU; injection e; omega
        have H5 := Lib.hid HU
        have HDk : Hid (x.services.drop k = ⟨rn, rf⟩ :: x.services.drop (k + 1)) := Lib.hid (by rw [List.drop_eq_getElem_cons hkak, Hr.out])
        have b0 := hc 0 _ rfl
        have b1 := hc 1 _ rfl
        simp only [Nat.add_zero] at b0
        have hgl1 : g1 < w.heap.size := World.block_lt_of_cell? w _ b0
        have b0 := (HL.out.bel.cell hgl1).trans b0
        have b1 := (HL.out.bel.cell hgl1).trans b1
        have i11 : (k : Int) < (n2 : Int) := by omega
        clear hc HU Hr
        have HT0 : Hid (Chk.firstF ((Tk.isName rn, rn) :: (rf.flatMap Chk.namesM ++ ((x.services.drop (k + 1)).flatMap Chk.namesV ++ x.sagas.flatMap Chk.namesG))) = R) := Lib.hid (by have h := HI.out; rw [HDk.out, List.flatMap_cons, List.append_assoc] at h; exact h)
        clear HI
        go_wp2_with fail
        refine (rname_s rn _).mono ?_
        rintro e W2 ⟨rfl, rfl⟩
        cases hn : Tk.isName rn
        case false =>
          have HE : Hid (R = some rn) := Lib.hid (by rw [← HT0.out]; exact Chk.firstF_f hn)
          go_wp2_with fail
          go_ret2
          exact ⟨by rw [HE.out]; rfl, HL.out.bel⟩
        have HT : Hid (_ = R) := Lib.hid ((Chk.firstF_t hn).symm.trans HT0.out)
        clear HT0
        go_wp2_with fail
        go_loopw [7] (fun i wr => ∃ (z : Nat), z ≤ n5 ∧ i = .int .i64 z ∧ V = wr ∧ Hid (Chk.firstF ((rf.drop z).flatMap Chk.namesM ++ ((x.services.drop (k + 1)).flatMap Chk.namesV ++ x.sagas.flatMap Chk.namesG)) = R)) (fun i _ => n5 - (intOf i).toNat)
        case atStart => exact ⟨0, by omega, rfl, rfl, Lib.hid (HT.out)⟩
        case round =>
          obtain ⟨j, hkj, rfl, rfl, HJ⟩ := hrel
          have ij0 : (0 : Int) ≤ (j : Int) := by omega
          by_cases hlj : j < n5
          case neg =>
            go_wp2_with fail
            go_roundw
            case rel => exact ⟨k + 1, by omega, by go_num, by first | rfl | trivial, Lib.hid (by have h := HJ.out; rw [List.drop_of_length_le (by have := HN5.out; omega)] at h; exact h)⟩
            case measure => simp [intOf]; omega
          have hkbj : j < rf.length := by rw [← HN5.out]; exact hlj
          obtain ⟨g2, off2, cs, rfl, -, he, hc⟩ := ERow.get H5.out hkbj (by omega)
          obtain ⟨r, Hr⟩ : ∃ r, Hid (rf[j] = r) := ⟨_, Lib.hid rfl⟩
          rw [Hr.out] at he
          obtain ⟨m0, m1, m2, m3, m4⟩ := r
          unfold Id.MthE Id.Mth.cells at he
          subst he
          have HDj : Hid (rf.drop j = ⟨m0, m1, m2, m3, m4⟩ :: rf.drop (j + 1)) := Lib.hid (by rw [List.drop_eq_getElem_cons hkbj, Hr.out])
          have a0 := hc 0 _ rfl
          have a1 := hc 1 _ rfl
          have a2 := hc 2 _ rfl
          have a3 := hc 3 _ rfl
          have a4 := hc 4 _ rfl
          simp only [Nat.add_zero] at a0
          have hgl2 : g2 < w.heap.size := World.block_lt_of_cell? w _ a0
          have a0 := (HL.out.bel.cell hgl2).trans a0
          have a1 := (HL.out.bel.cell hgl2).trans a1
          have a2 := (HL.out.bel.cell hgl2).trans a2
          have a3 := (HL.out.bel.cell hgl2).trans a3
          have a4 := (HL.out.bel.cell hgl2).trans a4
          have i21 : (j : Int) < (n5 : Int) := by omega
          clear hc Hr
          have HT1 : Hid (Chk.firstF ((Tk.isName m0, m0) :: ((rf.drop (j + 1)).flatMap Chk.namesM ++ ((x.services.drop (k + 1)).flatMap Chk.namesV ++ x.sagas.flatMap Chk.namesG))) = R) := Lib.hid (by have h := HJ.out; rw [HDj.out, List.flatMap_cons, List.append_assoc] at h; exact h)
          clear HJ HT
          go_wp2_with fail
          refine (rname_s m0 _).mono ?_
          rintro e W2 ⟨rfl, rfl⟩
          cases hn : Tk.isName m0
          case false =>
            have HE : Hid (R = some m0) := Lib.hid (by rw [← HT1.out]; exact Chk.firstF_f hn)
            go_wp2_with fail
            go_ret2
            exact ⟨by rw [HE.out]; rfl, HL.out.bel⟩
          have HT : Hid (_ = R) := Lib.hid ((Chk.firstF_t hn).symm.trans HT1.out)
          clear HT1
          go_wp2_with fail
          go_roundw
          case rel => exact ⟨j + 1, by omega, by go_num, by first | rfl | trivial, Lib.hid (HT.out)⟩
          case measure => simp [intOf]; omega
    have hkak : k < x.records.length := by rw [← HN1.out]; exact hlt
    obtain ⟨g1, off1, cs, rfl, -, ⟨u, he, HU⟩, hc⟩ := ERow.get H1.out hkak (by omega)
    obtain ⟨r, Hr⟩ : ∃ r, Hid (x.records[k] = r) := ⟨_, Lib.hid rfl⟩
    rw [Hr.out] at he HU
    obtain ⟨rn, rc, rf⟩ := r
    subst he
    simp only at HU hc
    obtain ⟨A5, n5, c5, rfl⟩ := ERow.is HU
    have HN5 : Hid (n5 = rf.length) := Lib.hid (by obtain ⟨_, _, e, _⟩ := ERow.slice HU; injection e)
    have hm5 : n5 ≤ 9223372036854775807 := by obtain ⟨_, _, e, _, _⟩ := ERow.slice HU; injection e; omega
    have H5 := Lib.hid HU
    have HDk : Hid (x.records.drop k = ⟨rn, rc, rf⟩ :: x.records.drop (k + 1)) := Lib.hid (by rw [List.drop_eq_getElem_cons hkak, Hr.out])
    have b0 := hc 0 _ rfl
    have b1 := hc 1 _ rfl
    have b2 := hc 2 _ rfl
    simp only [Nat.add_zero] at b0
    have hgl1 : g1 < w.heap.size := World.block_lt_of_cell? w _ b0
    have b0 := (HL.out.bel.cell hgl1).trans b0
    have b1 := (HL.out.bel.cell hgl1).trans b1
    have b2 := (HL.out.bel.cell hgl1).trans b2
    have i11 : (k : Int) < (n1 : Int) := by omega
    clear hc HU Hr
    have HT0 : Hid (Chk.firstF ((Tk.isName rn, rn) :: (rf.flatMap Chk.namesF ++ ((x.records.drop (k + 1)).flatMap Chk.namesR ++ (x.services.flatMap Chk.namesV ++ x.sagas.flatMap Chk.namesG)))) = R) := Lib.hid (by have h := HI.out; rw [HDk.out, List.flatMap_cons, List.append_assoc] at h; exact h)
    clear HI
    go_wp2_with fail
    refine (rname_s rn _).mono ?_
    rintro e W2 ⟨rfl, rfl⟩
    cases hn : Tk.isName rn
    case false =>
      have HE : Hid (R = some rn) := Lib.hid (by rw [← HT0.out]; exact Chk.firstF_f hn)
      go_wp2_with fail
      go_ret2
      exact ⟨by rw [HE.out]; rfl, HL.out.bel⟩
    have HT : Hid (_ = R) := Lib.hid ((Chk.firstF_t hn).symm.trans HT0.out)
    clear HT0
    go_wp2_with fail
    go_loopw [5] (fun i wr => ∃ (z : Nat), z ≤ n5 ∧ i = .int .i64 z ∧ V = wr ∧ Hid (Chk.firstF ((rf.drop z).flatMap Chk.namesF ++ ((x.records.drop (k + 1)).flatMap Chk.namesR ++ (x.services.flatMap Chk.namesV ++ x.sagas.flatMap Chk.namesG))) = R)) (fun i _ => n5 - (intOf i).toNat)
    case atStart => exact ⟨0, by omega, rfl, rfl, Lib.hid (HT.out)⟩
    case round =>
      obtain ⟨j, hkj, rfl, rfl, HJ⟩ := hrel
      have ij0 : (0 : Int) ≤ (j : Int) := by omega
      by_cases hlj : j < n5
      case neg =>
        go_wp2_with fail
        go_roundw
        case rel => exact ⟨k + 1, by omega, by go_num, by first | rfl | trivial, Lib.hid (by have h := HJ.out; rw [List.drop_of_length_le (by have := HN5.out; omega)] at h; exact h)⟩
        case measure => simp [intOf]; omega
      have hkbj : j < rf.length := by rw [← HN5.out]; exact hlj
      obtain ⟨g2, off2, cs, rfl, -, ⟨u, he, HU⟩, hc⟩ := ERow.get H5.out hkbj (by omega)
      obtain ⟨r, Hr⟩ : ∃ r, Hid (rf[j] = r) := ⟨_, Lib.hid rfl⟩
      rw [Hr.out] at he HU
      obtain ⟨yn, yt⟩ := r
      subst he
      simp only at HU hc
      obtain ⟨A7, n7, c7, rfl⟩ := ERow.is HU
      have HN7 : Hid (n7 = yt.length) := Lib.hid (by obtain ⟨_, _, e, _⟩ := ERow.slice HU; injection e)
      have hm7 : n7 ≤ 9223372036854775807 := by obtain ⟨_, _, e, _, _⟩ := ERow.slice HU; injection e; omega
      have H7 := Lib.hid HU
      clear HU
      have HDj : Hid (rf.drop j = ⟨yn, yt⟩ :: rf.drop (j + 1)) := Lib.hid (by rw [List.drop_eq_getElem_cons hkbj, Hr.out])
      have a0 := hc 0 _ rfl
      have a1 := hc 1 _ rfl
      simp only [Nat.add_zero] at a0
      have hgl2 : g2 < w.heap.size := World.block_lt_of_cell? w _ a0
      have a0 := (HL.out.bel.cell hgl2).trans a0
      have a1 := (HL.out.bel.cell hgl2).trans a1
      have i21 : (j : Int) < (n5 : Int) := by omega
      clear hc Hr
      have HT1 : Hid (Chk.firstF ((Tk.isName yn, yn) :: ((rf.drop (j + 1)).flatMap Chk.namesF ++ ((x.records.drop (k + 1)).flatMap Chk.namesR ++ (x.services.flatMap Chk.namesV ++ x.sagas.flatMap Chk.namesG)))) = R) := Lib.hid (by have h := HJ.out; rw [HDj.out, List.flatMap_cons, List.append_assoc] at h; exact h)
      clear HJ HT
      go_wp2_with fail
      refine (rname_s yn _).mono ?_
      rintro e W2 ⟨rfl, rfl⟩
      cases hn : Tk.isName yn
      case false =>
        have HE : Hid (R = some yn) := Lib.hid (by rw [← HT1.out]; exact Chk.firstF_f hn)
        go_wp2_with fail
        go_ret2
        exact ⟨by rw [HE.out]; rfl, HL.out.bel⟩
      have HT : Hid (_ = R) := Lib.hid ((Chk.firstF_t hn).symm.trans HT1.out)
      clear HT1
      go_wp2_with fail
      go_roundw
      case rel => exact ⟨j + 1, by omega, by go_num, by first | rfl | trivial, Lib.hid (HT.out)⟩
      case measure => simp [intOf]; omega
end Go.Proofs.YtmncppnpppdfkaaGreatDoor
