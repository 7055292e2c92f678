/- CheckOwn: the walk (printed by gen_own2.py). No condition but the ones the theorems state. -/
import Derived.Test.YtnnkppeafnpdcaaDoorChkOv
set_option linter.unusedVariables false
set_option linter.unusedSimpArgs false
namespace Go.Proofs.YtnnkppeafnpdcaaDoor
open Go.RowKit Go.BigFrame
theorem flat_set (size : Nat) {v' : Value} : ∀ (css : List (List Value)) (_ : ∀ cs ∈ css, cs.length = size) (i : Nat) (hi : i < css.length) (j : Nat) (_ : j < size), css.flatten.set (i * size + j) v' = (css.set i (css[i].set j v')).flatten
  | [], _, i, hi, _, _ => absurd hi (by simp)
  | c :: css, h, 0, _, j, hj => by
    have hc := h c (by simp)
    simp only [Nat.zero_mul, Nat.zero_add, List.flatten_cons, List.set_cons_zero, List.getElem_cons_zero]
    rw [List.set_append_left _ _ (by rw [hc]; exact hj)]
  | c :: css, h, i + 1, hi, j, hj => by
    have hc := h c (by simp)
    have ih := flat_set size (v' := v') css (fun cs hcs => h cs (by simp [hcs])) i (by simpa using hi) j hj
    simp only [List.flatten_cons, List.set_cons_succ, List.getElem_cons_succ]
    rw [List.set_append_right _ _ (by rw [hc, Nat.succ_mul]; omega), hc, show (i + 1) * size + j - size = i * size + j from by rw [Nat.succ_mul]; omega, ih]
theorem set_block {W : World} {g k : Nat} {u : Value} {b : Nat} (h : b ≠ g) : (W.setCell ⟨g, k, none⟩ u).heap[b]? = W.heap[b]? := Below.heap_setCell W ⟨g, k, none⟩ u b h
theorem set_cells {W : World} {g k : Nat} {u : Value} {cur : Array Value} {t : TypeId} {m : Nat × Nat} (h : W.heap[g]? = some (.cells cur t m)) : (W.setCell ⟨g, k, none⟩ u).heap[g]? = some (.cells (cur.setIfInBounds k u) t m) := by
  have hlt : g < W.heap.size := (Array.getElem?_eq_some_iff.1 h).1
  have hg' : W.heap[g] = .cells cur t m := by simpa [Array.getElem?_eq_getElem hlt] using h
  show (W.heap.modify g _)[g]? = _
  rw [Array.getElem?_eq_getElem (by simpa using hlt), Array.getElem_modify_self, hg']
  rfl
theorem Bk.set_far {W : World} {b g k : Nat} {T t : TypeId} {cs cur : Array Value} {m : Nat × Nat} {u : Value} (h : Bk W b T cs) (hg : W.heap[g]? = some (.cells cur t m)) (hT : T ≠ t) : Bk (W.setCell ⟨g, k, none⟩ u) b T cs := by
  refine (set_block ?_).trans h
  rintro rfl
  have := h.symm.trans hg
  injection this with e
  injection e with e1 e2 e3
  exact hT e2
theorem own_any {W : World} {base : Nat} {t : TypeId} {size : Nat} {v : Value} {n g k : Nat} {u : Value} (h : ∃ xs, W.ownsRow base t size v n xs) : ∃ xs, (W.setCell ⟨g, k, none⟩ u).ownsRow base t size v n xs := by
  obtain ⟨xs, h1, h2⟩ := h
  rcases h2 with hn | ⟨b, cap, cur, rfl, hb, hg, hn, hc, hs, ht⟩
  · exact ⟨xs, h1, .inl hn⟩
  · by_cases hbg : b = g
    · subst hbg
      refine ⟨(cur.setIfInBounds k u).toList.take (n * size), ?_, .inr ⟨b, cap, cur.setIfInBounds k u, rfl, hb, set_cells hg, hn, hc, by simpa using hs, rfl⟩⟩
      rw [List.length_take]
      simp only [Array.length_toList, Array.size_setIfInBounds, hs]
      exact Nat.min_eq_left (Nat.mul_le_mul_right _ hn)
    · exact ⟨xs, h1, .inr ⟨b, cap, cur, rfl, hb, (set_block hbg).trans hg, hn, hc, hs, ht⟩⟩
theorem RowR.set_far {W : World} {base : Nat} {t t' : TypeId} {size : Nat} {v : Value} {n : Nat} {xs : List Value} {g k : Nat} {u : Value} {cur : Array Value} {m : Nat × Nat} (h : RowR W (some base) t size v n xs) (hg : W.heap[g]? = some (.cells cur t' m)) (hT : t ≠ t') : RowR (W.setCell ⟨g, k, none⟩ u) (some base) t size v n xs := by
  obtain ⟨h1, h2⟩ := (show W.ownsRow base t size v n xs from h)
  refine ⟨h1, ?_⟩
  rcases h2 with hn | ⟨b, cap, cur', rfl, hb, hg', rest⟩
  · exact .inl hn
  · refine .inr ⟨b, cap, cur', rfl, hb, (Bk.set_far (show Bk W b t cur' from hg') hg hT), rest⟩
theorem ERow.own_get {α : Type} {w : World} {b : Nat} {t : TypeId} {size : Nat} {E : World → List Value → α → Prop} {A : Option Addr} {n c : Nat} {l : List α} (h : ERow w (some b) t size E (.slice A n c) l) {i : Nat} (hi : i < l.length) (hs : 0 < size) :
    ∃ g cs cur, A = some ⟨g, 0, none⟩ ∧ b ≤ g ∧ w.heap[g]? = some (.cells cur t (0, 0)) ∧ cs.length = size ∧ E w cs l[i] ∧ ∀ j u, cs[j]? = some u → w.cell? ⟨g, i * size + j, none⟩ = some u ∧ w.frozen? ⟨g, i * size + j, none⟩ = false := by
  obtain ⟨g0, off0, cs, e0, h1, h2, h3⟩ := ERow.get h hi hs
  obtain ⟨g, cap, cur, e, hb, hg⟩ := ERow.own_at h (by omega)
  injection e with e1 e2 e3
  rw [e0] at e1
  injection e1 with e1
  injection e1 with e4 e5
  subst e4 e5
  refine ⟨g0, cs, cur, e0, hb, hg, h1, h2, fun j u hu => ⟨by have := h3 j u hu; rwa [Nat.zero_add] at this, frozen_of_row w g0 _ _ _ hg⟩⟩
theorem ERow.set {α : Type} {W : World} {b : Nat} {t : TypeId} {size : Nat} {E : World → List Value → α → Prop} {n c g : Nat} {l : List α} (h : ERow W (some b) t size E (.slice (some ⟨g, 0, none⟩) n c) l) {i j : Nat} (hi : i < l.length) (hj : j < size) {u : Value}
    (hE : ∀ cs x, E W cs x → E (W.setCell ⟨g, i * size + j, none⟩ u) cs x) (hu : ∀ cs x, E W cs x → E (W.setCell ⟨g, i * size + j, none⟩ u) (cs.set j u) x) :
    ERow (W.setCell ⟨g, i * size + j, none⟩ u) (some b) t size E (.slice (some ⟨g, 0, none⟩) n c) l := by
  obtain ⟨css, h1, h2, h3, h4⟩ := h
  have hic : i < css.length := by omega
  have hn : n = l.length := by obtain ⟨_, _, e, _⟩ := h3.slice; injection e
  subst hn
  have hr := (row_set (show W.ownsRow b t size (.slice (some ⟨g, 0, none⟩) l.length c) l.length css.flatten from h3) (i * size + j) (by
    have : (i + 1) * size ≤ l.length * size := Nat.mul_le_mul_right _ (by omega)
    rw [Nat.succ_mul] at this
    omega) u).1
  rw [flat_set size css h2 i hic j hj] at hr
  refine ⟨css.set i (css[i].set j u), by simpa using h1, ?_, hr, ?_⟩
  · intro cs hcs
    rcases List.mem_or_eq_of_mem_set hcs with hcs | rfl
    · exact h2 cs hcs
    · rw [List.length_set]; exact h2 _ (List.getElem_mem _)
  · intro k hk hk'
    rw [List.getElem_set]
    split
    · rename_i e; subst e; exact hu _ _ (h4 _ _ _)
    · exact hE _ _ (h4 _ _ _)
namespace Chk
open Go.Proofs.YtnnkppeafnpdcaaDoor.Id
/-- Fields whose names and sorts may be anything. -/
def WfE (b : Nat) (w : World) (cs : List Value) (x : Fld) : Prop := ∃ nm A m c, cs = [.string nm, .slice A m c] ∧ m ≤ 9223372036854775807 ∧ ∃ xs, w.ownsRow b 55 2 (.slice A m c) m xs
def WsE (w : World) (cs : List Value) (x : Stp) : Prop := ∃ a b c, cs = [.string a, .string b, .int .i64 c]
theorem WfE.of {b : Nat} {w : World} {cs : List Value} {x : Fld} (h : FldE (some b) w cs x) : WfE b w cs x := by
  obtain ⟨u, rfl, css, h1, h2, h3, h4⟩ := h
  obtain ⟨A, c, rfl, h5, h6, _⟩ := h3.slice
  exact ⟨x.name, A, _, c, rfl, by omega, _, h3⟩
theorem WfE.set {b : Nat} {w : World} {cs : List Value} {x : Fld} {g k : Nat} {u : Value} (h : WfE b w cs x) : WfE b (w.setCell ⟨g, k, none⟩ u) cs x := by
  obtain ⟨nm, A, m, c, rfl, h1, h2⟩ := h
  exact ⟨nm, A, m, c, rfl, h1, own_any h2⟩
theorem WfE.name {b : Nat} {w : World} {cs : List Value} {x : Fld} {g k : Nat} {u : Value} {s : ByteArray} (h : WfE b w cs x) : WfE b (w.setCell ⟨g, k, none⟩ u) (cs.set 0 (.string s)) x := by
  obtain ⟨nm, A, m, c, rfl, h1, h2⟩ := h
  exact ⟨s, A, m, c, rfl, h1, own_any h2⟩
theorem WsE.set {w w' : World} {cs : List Value} {x : Stp} (h : WsE w cs x) : WsE w' cs x := h
theorem WsE.at_ {w w' : World} {cs : List Value} {x : Stp} {k : Int} (h : WsE w cs x) : WsE w' (cs.set 2 (.int .i64 k)) x := by
  obtain ⟨a, b, c, rfl⟩ := h
  exact ⟨a, b, k, rfl⟩
theorem own_sort {W : World} {base : Nat} {A : Option Addr} {n c k : Nat} (h : ∃ xs, W.ownsRow base 55 2 (.slice A n c) n xs) (hk : k < n) : ∃ g cur a b, A = some ⟨g, 0, none⟩ ∧ base ≤ g ∧ W.heap[g]? = some (.cells cur 55 (0, 0)) ∧ W.cell? ⟨g, k * 2, none⟩ = some a ∧ W.cell? ⟨g, k * 2 + 1, none⟩ = some b ∧ W.frozen? ⟨g, k * 2, none⟩ = false := by
  obtain ⟨xs, h1, h2⟩ := h
  rcases h2 with ⟨_, hn⟩ | ⟨g, cap, cur, e, hb, hg, hn, hc, hs, ht⟩
  · omega
  · injection e with e1 e2 e3
    exact ⟨g, cur, cur[k * 2]'(by omega), cur[k * 2 + 1]'(by omega), e1, hb, hg, by rw [cell_of_row W g _ _ _ _ hg]; exact Array.getElem?_eq_getElem _, by rw [cell_of_row W g _ _ _ _ hg]; exact Array.getElem?_eq_getElem _, frozen_of_row W g _ _ _ hg⟩
theorem over_find {x : Sch} (h : over x = false) (name : ByteArray) : ∀ y ∈ ((find x name).getD recZ).fields, (y.name.toList == [120, 33]) = false := by
  intro y hy
  unfold over at h
  simp only [Bool.or_eq_false_iff, List.any_eq_false] at h
  cases hf : find x name with
  | none => rw [hf] at hy; cases hy
  | some r =>
    rw [hf] at hy
    have h1 := h.1 r (List.mem_of_find?_eq_some hf)
    unfold ovR at h1
    have h2 := Bool.eq_false_iff.2 h1
    rw [List.any_eq_false] at h2
    exact Bool.eq_false_iff.2 (h2 y hy)
theorem over_saga {x : Sch} (h : over x = false) (name : ByteArray) : ∀ y ∈ ((sagaOf x name).getD sagZ).steps, (y.at_ == -7) = false := by
  intro y hy
  unfold over at h
  simp only [Bool.or_eq_false_iff, List.any_eq_false] at h
  cases hf : sagaOf x name with
  | none => rw [hf] at hy; cases hy
  | some r =>
    rw [hf] at hy
    have h1 := h.2 r (List.mem_of_find?_eq_some hf)
    unfold ovG at h1
    have h2 := Bool.eq_false_iff.2 h1
    rw [List.any_eq_false] at h2
    exact Bool.eq_false_iff.2 (h2 y hy)
end Chk
set_option maxRecDepth 100000 in
set_option maxHeartbeats 16000000 in
theorem checkOwn_walk (v : Value) (x : Id.Sch) (name : ByteArray) (w0 : World) (hv : Id.SchV w0 none v x) (hname : name.size ≤ 9223372036854775807) (w : World) (he : w = w0) (hk : Tk.KW w) :
    Calls Tryd.prog 7 #[v, .string name] w fun e w' => e = .returned (.bool true) ∧ Below w.heap.size w w' := by
  subst he
  have HV := Lib.hid hv
  have HKW := Lib.hid hk
  obtain ⟨A1, n1, c1, A2, n2, c2, A3, n3, c3, rfl, r1, r2, r3⟩ := hv
  clear hk r1 r2 r3
  go_enter Tryd.func7, Tryd.ntmps7
  go_upto_region 1 with (fail)
  refine wp_named (fun W0 hW0 => ?_)
  have HL := Lib.hid (Chk.Lx.start hW0)
  clear hW0
  obtain ⟨⟨q0, q1, q2, q3⟩, -⟩ := HL.out.box.k4
  go_wp2_with fail
  refine (cgreat_any _ x _ (Id.SchV.below HL.out.bel HV.out)).mono ?_
  rintro e W1 ⟨b, rfl, hb, hg⟩
  have HG := Lib.hid hg
  clear hg q0 q1 q2 q3
  have HLx := Lib.hid (HL.out.below hb)
  clear HL 
  have HL := HLx
  clear HLx 
  obtain ⟨⟨q0, q1, q2, q3⟩, -⟩ := HL.out.box.k4
  have done : ∀ W, Below w.heap.size w W → Calls Tryd.prog 9 #[] W fun e w' => e = .returned (.bool true) ∧ Below w.heap.size w w' := fun W hW => (wakes13_any W (HKW.out.below hW)).mono fun _ _ ⟨h1, h2⟩ => ⟨h1, hW.trans (h2.mono hW.size)⟩
  have HDN := Lib.hid done
  clear done
  cases b
  case true =>
    go_wp2_with fail
    refine (HDN.out _ HL.out.bel).mono ?_
    rintro e W2 ⟨rfl, hb2⟩
    go_wp2_with fail
    go_ret
    exact ⟨rfl, hb2⟩
  have HFG := Lib.hid (HG.out rfl)
  have HFi := Lib.hid HFG.out.fine
  clear HG
  by_cases hn200 : 200 < name.size
  case pos =>
    go_wp2_with fail
    refine (HDN.out _ HL.out.bel).mono ?_
    rintro e W2 ⟨rfl, hb2⟩
    go_wp2_with fail
    go_ret
    exact ⟨rfl, hb2⟩
  obtain ⟨S, HSeq⟩ : ∃ S : Array Value, Hid (S = #[.string x.name, .slice A1 n1 c1, .slice A2 n2 c2, .slice A3 n3 c3]) := ⟨_, Lib.hid rfl⟩
  rw [← HSeq.out] at HL
  go_wp2_with fail
  refine (cover_any _ x _ (Id.SchV.below HL.out.bel HV.out)).mono ?_
  rintro e W2 ⟨rfl, hb⟩
  clear q0 q1 q2 q3
  have HLx := Lib.hid (HL.out.below hb)
  clear HL 
  have HL := HLx
  clear HLx 
  obtain ⟨had, HHad⟩ : ∃ b, Hid (Chk.over x = b) := ⟨_, Lib.hid rfl⟩
  rw [HHad.out]
  have hs2 : w.heap.size ≤ W2.heap.size := HL.out.bel.size
  have hsq := HL.out.box
  rw [HSeq.out] at hsq
  obtain ⟨⟨q0, q1, q2, q3⟩, -⟩ := hsq.k4
  clear hsq
  go_wp2_with fail
  refine (cfind_any _ x name HFi.out.small _ (Id.SchV.below HL.out.bel HV.out)).mono ?_
  rintro e X ⟨u, rfl, hb, hu⟩
  obtain ⟨u2, rfl, hu2⟩ := hu
  obtain ⟨A, n, c, rfl⟩ := ERow.is hu2
  obtain ⟨R, HRa⟩ : ∃ R, Hid ((Chk.find x name).getD Chk.recZ = R) := ⟨_, Lib.hid rfl⟩
  rw [HRa.out] at hu2 ⊢
  obtain ⟨ra, rb, rl⟩ := R
  simp only at hu2
  have HUa := Lib.hid hu2
  clear hu2
  obtain ⟨is, his⟩ : ∃ b : Bool, (Chk.find x name).isSome = b := ⟨_, rfl⟩
  rw [his]
  clear his
  have HLx := Lib.hid (HL.out.below hb)
  clear HL 
  have HL := HLx
  clear HLx 
  clear q0 q1 q2 q3 
  go_upto_region 5 with (fail)
  refine wp_named (fun V hV => ?_)
  obtain ⟨hbV, hqV, -⟩ := fresh_box hV
  clear hV
  have HUx := Lib.hid (ERow.below HUa.out hbV (Id.FldE.below hbV))
  clear HUa
  have HUa := HUx
  clear HUx
  have HLx := Lib.hid (HL.out.below hbV)
  clear HL 
  have HL := HLx
  clear HLx 
  have HBa := Lib.hid hqV
  clear hqV hbV hb
  generalize hbxa : X.heap.size = ba at *
  clear hbxa
  obtain ⟨Za, HZa⟩ : ∃ Z : Array Value, Hid (Z = #[.string ra, .bool rb, .slice A n c]) := ⟨_, Lib.hid rfl⟩
  rw [← HZa.out] at HBa
  have HWa : Hid (ERow V (some w.heap.size) 53 2 (Chk.WfE w.heap.size) (.slice A n c) rl) := Lib.hid (ERow.mono HUa.out (fun _ _ hr => hr.weak (fun b' e => by injection e with e; subst e; exact ⟨_, rfl, hs2⟩)) (fun cs y h => Chk.WfE.of (Id.FldE.weak (fun b' e => by injection e with e; subst e; exact ⟨_, rfl, hs2⟩) _ _ h)))
  clear HUa
  have HNa : Hid (n = rl.length) := Lib.hid (by obtain ⟨_, _, e, _⟩ := ERow.slice HWa.out; injection e)
  have hma : n ≤ 9223372036854775807 := by obtain ⟨_, _, e, _, _⟩ := ERow.slice HWa.out; injection e; omega
  go_wp2_with fail
  go_loopw [8] (fun i wr => ∃ (z : Nat), z ≤ n ∧ i = .int .i64 z ∧ Hid (Chk.Lx w wr S) ∧ Hid (Bk wr ba 34 Za) ∧ Hid (ERow wr (some w.heap.size) 53 2 (Chk.WfE w.heap.size) (.slice A n c) rl)) (fun i _ => n - (intOf i).toNat)
  case atStart => exact ⟨0, by omega, rfl, HL, HBa, HWa⟩
  case round =>
    clear HL HBa HWa
    obtain ⟨k, hk, rfl, HL, HBa, HWa⟩ := hrel
    obtain ⟨Wk, rfl⟩ : ∃ w', w' = wr := ⟨_, rfl⟩
    have k0 : (0 : Int) ≤ (k : Int) := by omega
    have hsa := HBa.out
    rw [HZa.out] at hsa
    obtain ⟨⟨d0, d1, d2⟩, -⟩ := hsa.k3
    clear hsa
    by_cases hlt : k < n
    case neg =>
      have HLk := HL
      clear HZa HBa HWa HNa hma
      have hsq := HL.out.box
      rw [HSeq.out] at hsq
      obtain ⟨⟨q0, q1, q2, q3⟩, -⟩ := hsq.k4
      clear hsq
      go_wp2_with fail
      refine (csaga_any _ x name (fun g hg => Nat.le_trans (HFi.out.sa g hg).2.1 (by decide)) _ (Id.SchV.below HL.out.bel HV.out)).mono ?_
      rintro e X ⟨u, rfl, hb, hu⟩
      obtain ⟨u2, rfl, hu2⟩ := hu
      obtain ⟨A, n, c, rfl⟩ := ERow.is hu2
      obtain ⟨R, HRg⟩ : ∃ R, Hid ((Chk.sagaOf x name).getD Chk.sagZ = R) := ⟨_, Lib.hid rfl⟩
      rw [HRg.out] at hu2 ⊢
      obtain ⟨ra, rb, rl⟩ := R
      simp only at hu2
      have HUg := Lib.hid hu2
      clear hu2
      obtain ⟨is, his⟩ : ∃ b : Bool, (Chk.sagaOf x name).isSome = b := ⟨_, rfl⟩
      rw [his]
      clear his
      have HLx := Lib.hid (HL.out.below hb)
      clear HL 
      have HL := HLx
      clear HLx 
      clear q0 q1 q2 q3 d0 d1 d2
      go_upto_region 14 with (fail)
      refine wp_named (fun V hV => ?_)
      obtain ⟨hbV, hqV, -⟩ := fresh_box hV
      clear hV
      have HUx := Lib.hid (ERow.below HUg.out hbV (fun _ _ h => h))
      clear HUg
      have HUg := HUx
      clear HUx
      have HLx := Lib.hid (HL.out.below hbV)
      clear HL 
      have HL := HLx
      clear HLx 
      have HBg := Lib.hid hqV
      clear hqV hbV hb
      generalize hbxg : X.heap.size = bg at *
      clear hbxg
      obtain ⟨Zg, HZg⟩ : ∃ Z : Array Value, Hid (Z = #[.string ra, .string rb, .slice A n c]) := ⟨_, Lib.hid rfl⟩
      rw [← HZg.out] at HBg
      have HWg : Hid (ERow V (some w.heap.size) 50 3 Chk.WsE (.slice A n c) rl) := Lib.hid (ERow.mono HUg.out (fun _ _ hr => hr.weak (fun b' e => by injection e with e; subst e; exact ⟨_, rfl, HLk.out.bel.size⟩)) (fun cs y h => ⟨_, _, _, h⟩))
      clear HUg
      have HNg : Hid (n = rl.length) := Lib.hid (by obtain ⟨_, _, e, _⟩ := ERow.slice HWg.out; injection e)
      have hmg : n ≤ 9223372036854775807 := by obtain ⟨_, _, e, _, _⟩ := ERow.slice HWg.out; injection e; omega
      go_wp2_with fail
      go_loopw [12] (fun i wr => ∃ (z : Nat), z ≤ n ∧ i = .int .i64 z ∧ Hid (Chk.Lx w wr S) ∧ Hid (Bk wr bg 43 Zg) ∧ Hid (ERow wr (some w.heap.size) 50 3 Chk.WsE (.slice A n c) rl)) (fun i _ => n - (intOf i).toNat)
      case atStart => exact ⟨0, by omega, rfl, HL, HBg, HWg⟩
      case round =>
        clear HL HBg HWg HLk hk
        obtain ⟨k, hk, rfl, HL, HBg, HWg⟩ := hrel
        obtain ⟨Wk, rfl⟩ : ∃ w', w' = wr := ⟨_, rfl⟩
        have k0 : (0 : Int) ≤ (k : Int) := by omega
        have hsg := HBg.out
        rw [HZg.out] at hsg
        obtain ⟨⟨d0, d1, d2⟩, -⟩ := hsg.k3
        clear hsg
        by_cases hlt : k < n
        case neg =>
          clear HZg HBg HWg HNg hmg
          have hsq := HL.out.box
          rw [HSeq.out] at hsq
          obtain ⟨⟨q0, q1, q2, q3⟩, -⟩ := hsq.k4
          clear hsq
          go_wp2_with fail
          refine (cfind_any _ x name HFi.out.small _ (Id.SchV.below HL.out.bel HV.out)).mono ?_
          rintro e X ⟨u, rfl, hb, hu⟩
          obtain ⟨u2, rfl, hu2⟩ := hu
          obtain ⟨A, n, c, rfl⟩ := ERow.is hu2
          obtain ⟨R, HRb⟩ : ∃ R, Hid ((Chk.find x name).getD Chk.recZ = R) := ⟨_, Lib.hid rfl⟩
          rw [HRb.out] at hu2 ⊢
          obtain ⟨ra, rb, rl⟩ := R
          simp only at hu2
          have HUb := Lib.hid hu2
          clear hu2
          obtain ⟨is, his⟩ : ∃ b : Bool, (Chk.find x name).isSome = b := ⟨_, rfl⟩
          rw [his]
          clear his
          have HLx := Lib.hid (HL.out.below hb)
          clear HL 
          have HL := HLx
          clear HLx 
          clear q0 q1 q2 q3 d0 d1 d2 hlt k0
          go_upto_region 19 with (fail)
          refine wp_named (fun V hV => ?_)
          obtain ⟨hbV, hqV, -⟩ := fresh_box hV
          clear hV
          have HUx := Lib.hid (ERow.below HUb.out hbV (Id.FldE.below hbV))
          clear HUb
          have HUb := HUx
          clear HUx
          have HLx := Lib.hid (HL.out.below hbV)
          clear HL 
          have HL := HLx
          clear HLx 
          have HBb := Lib.hid hqV
          clear hqV hbV hb
          generalize hbxb : X.heap.size = bb at *
          clear hbxb
          obtain ⟨Zb, HZb⟩ : ∃ Z : Array Value, Hid (Z = #[.string ra, .bool rb, .slice A n c]) := ⟨_, Lib.hid rfl⟩
          rw [← HZb.out] at HBb
          have HNb : Hid (n = rl.length) := Lib.hid (by obtain ⟨_, _, e, _⟩ := ERow.slice HUb.out; injection e)
          have hmb : n ≤ 9223372036854775807 := by obtain ⟨_, _, e, _, _⟩ := ERow.slice HUb.out; injection e; omega
          have HNX : Hid (had = false → ∀ y ∈ rl, (y.name.toList == [120, 33]) = false) := Lib.hid (fun h y hy => by subst h; exact Chk.over_find HHad.out name y (by rw [HRb.out]; exact hy))
          obtain ⟨bB, HBB⟩ : ∃ b : Nat, Hid (b = b) := ⟨0, Lib.hid rfl⟩
          clear HBB bB
          have HUb2 : Hid (ERow V none 53 2 (Id.FldE none) (.slice A n c) rl) := Lib.hid (ERow.mono HUb.out (fun _ _ hr => hr.weak (fun b' e => by cases e)) (fun _ _ h => Id.FldE.weak (Id.wk_none _) _ _ h))
          clear HUb
          obtain ⟨Ab, nb, cb, lb, Vb, hE1, hE2, hE3, hE4, hE5⟩ : ∃ A' n' c' l' V', A' = A ∧ n' = n ∧ c' = c ∧ l' = rl ∧ V' = V := ⟨_, _, _, _, _, rfl, rfl, rfl, rfl, rfl⟩
          subst hE1 hE2 hE3 hE4 hE5
          have hsq := HL.out.box
          rw [HSeq.out] at hsq
          obtain ⟨⟨q0, q1, q2, q3⟩, -⟩ := hsq.k4
          clear hsq
          go_wp2_with fail
          refine (csaga_any _ x name (fun g hg => Nat.le_trans (HFi.out.sa g hg).2.1 (by decide)) _ (Id.SchV.below HL.out.bel HV.out)).mono ?_
          rintro e X ⟨u, rfl, hb, hu⟩
          obtain ⟨u2, rfl, hu2⟩ := hu
          obtain ⟨A, n, c, rfl⟩ := ERow.is hu2
          obtain ⟨R, HRh⟩ : ∃ R, Hid ((Chk.sagaOf x name).getD Chk.sagZ = R) := ⟨_, Lib.hid rfl⟩
          rw [HRh.out] at hu2 ⊢
          obtain ⟨ra2, rb2, rl⟩ := R
          simp only at hu2
          have HUh := Lib.hid hu2
          clear hu2
          obtain ⟨is2, his⟩ : ∃ b : Bool, (Chk.sagaOf x name).isSome = b := ⟨_, rfl⟩
          rw [his]
          clear his
          have HUx := Lib.hid (ERow.below HUb2.out hb (Id.FldE.below hb))
          clear HUb2
          have HUb2 := HUx
          clear HUx
          have HLx := Lib.hid (HL.out.below hb)
          have HBbx := Lib.hid (HBb.out.below hb HBb.out.lt)
          clear HL HBb
          have HL := HLx
          have HBb := HBbx
          clear HLx HBbx
          clear q0 q1 q2 q3
          go_upto_region 20 with (fail)
          refine wp_named (fun V hV => ?_)
          obtain ⟨hbV, hqV, -⟩ := fresh_box hV
          clear hV
          have HUx := Lib.hid (ERow.below HUb2.out hbV (Id.FldE.below hbV))
          clear HUb2
          have HUb2 := HUx
          clear HUx
          have HUh2 : Hid (ERow V none 50 3 Id.StpE (.slice A n c) rl) := Lib.hid (ERow.mono (ERow.below HUh.out hbV (fun _ _ h => h)) (fun _ _ hr => hr.weak (fun b' e => by cases e)) (fun _ _ h => h))
          clear HUh
          have HLx := Lib.hid (HL.out.below hbV)
          have HBbx := Lib.hid (HBb.out.below hbV HBb.out.lt)
          clear HL HBb
          have HL := HLx
          have HBb := HBbx
          clear HLx HBbx
          have HBh := Lib.hid hqV
          clear hqV hbV hb
          generalize hbxh : X.heap.size = bh at *
          clear hbxh
          obtain ⟨Zh, HZh⟩ : ∃ Z : Array Value, Hid (Z = #[.string ra2, .string rb2, .slice A n c]) := ⟨_, Lib.hid rfl⟩
          rw [← HZh.out] at HBh
          have HNh : Hid (n = rl.length) := Lib.hid (by obtain ⟨_, _, e, _⟩ := ERow.slice HUh2.out; injection e)
          have hmh : n ≤ 9223372036854775807 := by obtain ⟨_, _, e, _, _⟩ := ERow.slice HUh2.out; injection e; omega
          have HHX : Hid (had = false → ∀ y ∈ rl, (y.at_ == -7) = false) := Lib.hid (fun h y hy => by subst h; exact Chk.over_saga HHad.out name y (by rw [HRh.out]; exact hy))
          cases had
          case true =>
            go_wp2_with fail
            refine (HDN.out _ HL.out.bel).mono ?_
            rintro e W2 ⟨rfl, hb2⟩
            go_wp2_with fail
            go_ret
            exact ⟨rfl, hb2⟩
          have HNXb := Lib.hid (HNX.out rfl)
          have HHXb := Lib.hid (HHX.out rfl)
          clear HNX HHX
          have hsb := HBb.out
          rw [HZb.out] at hsb
          obtain ⟨⟨d0, d1, d2⟩, -⟩ := hsb.k3
          clear hsb
          have hsh := HBh.out
          rw [HZh.out] at hsh
          obtain ⟨⟨f0, f1, f2⟩, -⟩ := hsh.k3
          clear hsh
          clear hk
          go_wp2_with fail
          go_loopw [17] (fun i wr => ∃ (z : Nat), z ≤ nb ∧ i = .int .i64 z ∧ V = wr) (fun i _ => nb - (intOf i).toNat)
          case atStart => exact ⟨0, by omega, rfl, rfl⟩
          case round =>
            obtain ⟨k, hk, rfl, rfl⟩ := hrel
            have k0 : (0 : Int) ≤ (k : Int) := by omega
            by_cases hlt : k < nb
            case pos =>
              have hka : k < lb.length := by rw [← HNb.out]; exact hlt
              obtain ⟨g2, off2, cs, rfl, -, ⟨u, he, HU⟩, hc⟩ := ERow.get HUb2.out hka (by omega)
              have hnx := HNXb.out _ (List.getElem_mem hka)
              subst he
              obtain ⟨yn, hyn⟩ : ∃ s, lb[k].name = s := ⟨_, rfl⟩
              rw [hyn] at hnx hc
              have a0 := hc 0 _ rfl
              simp only [Nat.add_zero] at a0
              have i11 : (k : Int) < (nb : Int) := by omega
              clear hc HU hyn
              go_wp2_with fail
              go_roundw
              case rel => exact ⟨k + 1, by omega, by go_num, by first | rfl | trivial⟩
              case measure => simp [intOf]; omega
            go_wp2_with fail
            clear hk hlt k0
            go_loopw [18] (fun i wr => ∃ (z : Nat), z ≤ n ∧ i = .int .i64 z ∧ V = wr) (fun i _ => n - (intOf i).toNat)
            case atStart => exact ⟨0, by omega, rfl, rfl⟩
            case round =>
              obtain ⟨k, hk, rfl, rfl⟩ := hrel
              have k0 : (0 : Int) ≤ (k : Int) := by omega
              by_cases hlt : k < n
              case pos =>
                have hka : k < rl.length := by rw [← HNh.out]; exact hlt
                obtain ⟨g2, off2, cs, rfl, -, he, hc⟩ := ERow.get HUh2.out hka (by omega)
                have hnx := HHXb.out _ (List.getElem_mem hka)
                unfold Id.StpE Id.Stp.cells at he
                subst he
                obtain ⟨ya, hya⟩ : ∃ s, rl[k].at_ = s := ⟨_, rfl⟩
                rw [hya] at hnx hc
                have a2 := hc 2 _ rfl
                have i11 : (k : Int) < (n : Int) := by omega
                clear hc hya
                go_wp2_with fail
                go_roundw
                case rel => exact ⟨k + 1, by omega, by go_num, by first | rfl | trivial⟩
                case measure => simp [intOf]; omega
              have hsq := HL.out.box
              rw [HSeq.out] at hsq
              obtain ⟨⟨q0, q1, q2, q3⟩, -⟩ := hsq.k4
              clear hsq
              go_wp2_with fail
              refine (cover_any _ x _ (Id.SchV.below HL.out.bel HV.out)).mono ?_
              rintro e W3 ⟨rfl, hb⟩
              rw [HHad.out]
              clear q0 q1 q2 q3 d0 d1 d2 f0 f1 f2
              have HLx := Lib.hid (HL.out.below hb)
              clear HL 
              have HL := HLx
              clear HLx 
              go_wp2_with fail
              refine (HDN.out _ HL.out.bel).mono ?_
              rintro e W2 ⟨rfl, hb2⟩
              go_wp2_with fail
              go_ret
              exact ⟨rfl, hb2⟩
        have hka : k < rl.length := by rw [← HNg.out]; exact hlt
        obtain ⟨g2, cs, cur, rfl, hbg, hg, -, he, hc⟩ := ERow.own_get HWg.out hka (by omega)
        obtain ⟨p0, p1, p2, rfl⟩ := he
        obtain ⟨a2, z2⟩ := hc 2 _ rfl
        have i11 : (k : Int) < (n : Int) := by omega
        clear hc
        have HL3 : Hid (Chk.Lx w (Wk.setCell ⟨g2, k * 3 + 2, none⟩ (.int .i64 (-7))) S) := Lib.hid ⟨HL.out.bel.trans ((Below.refl _ _).setCell (p := ⟨g2, k * 3 + 2, none⟩) hbg _), Bk.set_far HL.out.box hg (by decide)⟩
        have HBg3 := Lib.hid (Bk.set_far (k := k * 3 + 2) (u := .int .i64 (-7)) HBg.out hg (by decide))
        have HWg3 := Lib.hid (ERow.set (u := .int .i64 (-7)) HWg.out hka (j := 2) (by omega) (fun _ _ h => h) (fun _ _ h => Chk.WsE.at_ h))
        clear HL HBg HWg hg
        go_wp2_with fail
        go_roundw
        case rel => exact ⟨k + 1, by omega, by go_num, HL3, HBg3, HWg3⟩
        case measure => simp [intOf]; omega
    have hka : k < rl.length := by rw [← HNa.out]; exact hlt
    obtain ⟨g2, cs, cur, rfl, hbg, hg, -, he, hc⟩ := ERow.own_get HWa.out hka (by omega)
    obtain ⟨yn, A7, n7, c7, rfl, hm7, HO⟩ := he
    obtain ⟨a0, z0⟩ := hc 0 _ rfl
    obtain ⟨a1, z1⟩ := hc 1 _ rfl
    simp only [Nat.add_zero] at a0 z0
    have i11 : (k : Int) < (n : Int) := by omega
    clear hc
    have HGA := Lib.hid (And.intro hbg (And.intro (show ∃ c, Wk.heap[g2]? = some (.cells c 53 (0, 0)) from ⟨_, hg⟩) (And.intro a1 (show ∃ s, Wk.cell? ⟨g2, k * 2, none⟩ = some (.string s) from ⟨_, a0⟩))))
    have HOO := Lib.hid HO
    clear a0 a1 z0 z1 hg HO hbg
    have hsx := HL
    clear hsx
    go_wp2_with fail
    go_loopw [9] (fun i wr => ∃ (z : Nat), z ≤ n7 ∧ i = .int .i64 z ∧ Hid (Chk.Lx w wr S) ∧ Hid (Bk wr ba 34 Za) ∧ Hid (ERow wr (some w.heap.size) 53 2 (Chk.WfE w.heap.size) (.slice (some ⟨g2, 0, none⟩) n c) rl) ∧ Hid (w.heap.size ≤ g2 ∧ (∃ c, wr.heap[g2]? = some (.cells c 53 (0, 0))) ∧ wr.cell? ⟨g2, k * 2 + 1, none⟩ = some (.slice A7 n7 c7) ∧ ∃ s, wr.cell? ⟨g2, k * 2, none⟩ = some (.string s)) ∧ Hid (∃ xs, wr.ownsRow w.heap.size 55 2 (.slice A7 n7 c7) n7 xs)) (fun i _ => n7 - (intOf i).toNat)
    case atStart => exact ⟨0, by omega, rfl, HL, HBa, HWa, HGA, HOO⟩
    case round =>
      clear HL HBa HWa HGA HOO d0 d1 d2
      obtain ⟨j, hj, rfl, HL, HBa, HWa, HGA, HOO⟩ := hrel
      obtain ⟨Wj, rfl⟩ : ∃ w', w' = wr := ⟨_, rfl⟩
      have j0 : (0 : Int) ≤ (j : Int) := by omega
      have hsa := HBa.out
      rw [HZa.out] at hsa
      obtain ⟨⟨d0, d1, d2⟩, -⟩ := hsa.k3
      clear hsa
      obtain ⟨hbg, ⟨cur2, hg⟩, a1, yn2, a0⟩ := HGA.out
      have z0 := frozen_of_row Wj g2 (k * 2) _ _ hg
      by_cases hlj : j < n7
      case pos =>
        obtain ⟨g3, cur3, e0, e1, rfl, hb3, hg3, s0, s1, y0⟩ := Chk.own_sort HOO.out hlj
        have i21 : (j : Int) < (n7 : Int) := by omega
        have hne : g2 ≠ g3 := by rintro rfl; have h := hg.symm.trans hg3; injection h with h; injection h with _ h _; exact absurd h (by decide)
        have HL3 : Hid (Chk.Lx w (Wj.setCell ⟨g3, j * 2, none⟩ (.int .u8 99)) S) := Lib.hid ⟨HL.out.bel.trans ((Below.refl _ _).setCell (p := ⟨g3, j * 2, none⟩) hb3 _), Bk.set_far HL.out.box hg3 (by decide)⟩
        have HBa3 : Hid (Bk (Wj.setCell ⟨g3, j * 2, none⟩ (.int .u8 99)) ba 34 Za) := Lib.hid (Bk.set_far HBa.out hg3 (by decide))
        have HWa3 : Hid (ERow (Wj.setCell ⟨g3, j * 2, none⟩ (.int .u8 99)) (some w.heap.size) 53 2 (Chk.WfE w.heap.size) (.slice (some ⟨g2, 0, none⟩) n c) rl) := Lib.hid (ERow.mono HWa.out (fun _ _ hr => RowR.set_far hr hg3 (by decide)) (fun _ _ h => Chk.WfE.set h))
        have hgx : (Wj.setCell ⟨g3, j * 2, none⟩ (.int .u8 99)).heap[g2]? = some (.cells cur2 53 (0, 0)) := (set_block hne).trans hg
        have HGA3 : Hid (w.heap.size ≤ g2 ∧ (∃ c, (Wj.setCell ⟨g3, j * 2, none⟩ (.int .u8 99)).heap[g2]? = some (.cells c 53 (0, 0))) ∧ (Wj.setCell ⟨g3, j * 2, none⟩ (.int .u8 99)).cell? ⟨g2, k * 2 + 1, none⟩ = some (.slice (some ⟨g3, 0, none⟩) n7 c7) ∧ ∃ s, (Wj.setCell ⟨g3, j * 2, none⟩ (.int .u8 99)).cell? ⟨g2, k * 2, none⟩ = some (.string s)) := Lib.hid ⟨hbg, ⟨_, hgx⟩, by rw [cell_of_row _ g2 _ _ _ _ hgx, ← cell_of_row Wj g2 _ _ _ _ hg]; exact a1, yn2, by rw [cell_of_row _ g2 _ _ _ _ hgx, ← cell_of_row Wj g2 _ _ _ _ hg]; exact a0⟩
        have HOO3 : Hid (∃ xs, (Wj.setCell ⟨g3, j * 2, none⟩ (.int .u8 99)).ownsRow w.heap.size 55 2 (.slice (some ⟨g3, 0, none⟩) n7 c7) n7 xs) := Lib.hid (own_any HOO.out)
        clear HL HBa HWa HGA HOO hgx hg hg3
        go_wp2_with fail
        go_roundw
        case rel => exact ⟨j + 1, by omega, by go_num, HL3, HBa3, HWa3, HGA3, HOO3⟩
        case measure => simp [intOf]; omega
      have HL3 : Hid (Chk.Lx w (Wj.setCell ⟨g2, k * 2, none⟩ (.string ⟨#[120, 33]⟩)) S) := Lib.hid ⟨HL.out.bel.trans ((Below.refl _ _).setCell (p := ⟨g2, k * 2, none⟩) hbg _), Bk.set_far HL.out.box hg (by decide)⟩
      have HBa3 : Hid (Bk (Wj.setCell ⟨g2, k * 2, none⟩ (.string ⟨#[120, 33]⟩)) ba 34 Za) := Lib.hid (Bk.set_far HBa.out hg (by decide))
      have HWa3 : Hid (ERow (Wj.setCell ⟨g2, k * 2, none⟩ (.string ⟨#[120, 33]⟩)) (some w.heap.size) 53 2 (Chk.WfE w.heap.size) (.slice (some ⟨g2, 0, none⟩) n c) rl) := Lib.hid (by have h := ERow.set (u := .string ⟨#[120, 33]⟩) HWa.out hka (j := 0) (by omega) (fun _ _ h => Chk.WfE.set h) (fun _ _ h => Chk.WfE.name h); simp only [Nat.add_zero] at h; exact h)
      clear HL HBa HWa HGA HOO hg
      go_wp2_with fail
      go_roundw
      case rel => exact ⟨k + 1, by omega, by go_num, HL3, HBa3, HWa3⟩
      case measure => simp [intOf]; omega
end Go.Proofs.YtnnkppeafnpdcaaDoor
