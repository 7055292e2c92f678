/- The parser: sorts. The parser: field. The parser: arg, step, method. The parser: method. The parser: within, thrice (printed by gen_within.py). The parser: schema. (merged by merge.py: XIdlH XIdlI XIdlJ XIdlK XIdlL XIdlM). No condition but the ones the theorems state. -/
import Derived.Test.YtmncppnpppdfkaaGreatDoorIdlK1
import Derived.Test.YtmncppnpppdfkaaGreatDoorK0
import Derived.Deep.RegionHeld3
set_option linter.unusedVariables false
set_option linter.unusedSimpArgs false
namespace Go.Proofs.YtmncppnpppdfkaaGreatDoor
open Go.RowKit
theorem Tk.KW.grown {w w' : World} {b : Nat} (h : Tk.KW w) (hg : w.grownBy w' (some b)) (hb : 0 < b) : Tk.KW w' :=
  ⟨Nat.lt_of_lt_of_le h.1 hg.size, fun j hj => (World.cell?_of_block (hg.block 0 h.1 (by intro e; injection e with e; omega))).trans (h.2 j hj)⟩
namespace Id
structure Srt where
  kind : Nat
  name : ByteArray
def Srt.cells (x : Srt) : List Value := [.int .u8 x.kind, .string x.name]
def SortE (w : World) (cs : List Value) (x : Srt) : Prop := cs = x.cells
def SortsR (w : World) (B : Option Nat) (v : Value) (l : List Srt) : Prop := ERow w B 60 2 SortE v l
def wList : ByteArray := ⟨#[108, 105, 115, 116]⟩
def wOpt : ByteArray := ⟨#[111, 112, 116]⟩
def ends (s : St) : Bool := match s.1 with
  | [] => false
  | t :: _ => (t.kind == 1) && !(endW t.text == 0)
def head (s : St) : ByteArray := match s.1 with
  | [] => ⟨#[]⟩
  | t :: _ => t.text
def sortsF : Nat → St → List Srt → List Srt × St
  | 0, s, acc => ([], s)
  | f + 1, s, acc => if s.2 then ([], s) else
    if is s wList then sortsF f (s.1.tail, s.2) (acc ++ [⟨5, ⟨#[]⟩⟩]) else
    if is s wOpt then sortsF f (s.1.tail, s.2) (acc ++ [⟨6, ⟨#[]⟩⟩]) else
    if ends s then (acc ++ [⟨endW (head s), ⟨#[]⟩⟩], (s.1.tail, s.2)) else
    (acc ++ [⟨7, (name s).1⟩], (name s).2)
def sorts (s : St) : List Srt × St := sortsF (s.1.length + 1) s []
theorem is_len {s : St} {x : ByteArray} (h : is s x = true) : s.1.tail.length + 1 = s.1.length := by
  obtain ⟨t, r, rfl⟩ := is_cons h
  rfl
end Id
theorem Id.info_sort : (Tryz.prog.info? 60).map (fun i => (i.zero, i.size, i.bytes)) = some (some (.agg #[.int .u8 0, .string ByteArray.empty]), 2, 24) := by kernel_rfl
theorem Id.Ps.only {w w' : World} {b : Nat} {s : Id.St} (h : Id.Ps w b s) {e : TypeId} (hg : Only e w w') (h1 : 154 ≠ e) (h2 : 152 ≠ e) : Id.Ps w' b s := by
  obtain ⟨A, c, k1, k2, k3, k4, k5⟩ := h.lies
  have key : ∀ g off, A = some ⟨g, off, none⟩ → w'.heap[g]? = w.heap[g]? ∧ Id.Typed w g := fun g off e => by
    subst e
    obtain ⟨cs, fr, hh⟩ := h.typ _ _ _ _ _ k1
    exact ⟨(hg.typed hh h1).trans hh.symm, ⟨cs, fr, hh⟩⟩
  refine ⟨⟨A, c, hg.bk k1 h2, fun h0 => ?_, k3, k4, k5⟩, Id.typ_of (hg.bk k1 h2) (fun g off e => ?_)⟩
  · obtain ⟨g, off, e, hc⟩ := k2 h0
    refine ⟨g, off, e, fun j hj => ?_⟩
    have hk := (key g off e).1
    have kc : ∀ o, w'.cell? ⟨g, o, none⟩ = w.cell? ⟨g, o, none⟩ := fun o => World.cell?_of_block (a := ⟨g, o, none⟩) hk
    rw [kc, kc, kc, kc]
    exact hc j hj
  · obtain ⟨hk, cs, fr, hh⟩ := key g off e
    exact ⟨cs, fr, hk.trans hh⟩
/-- A round's head. -/
structure Id.SortsAt (w : World) (b : Nat) (R : List Id.Srt × Id.St) (n : Nat) (v : Value) (wr : World) (s : Id.St) (acc : List Id.Srt) : Prop where
  fu : s.1.length + 1 ≤ n
  ln : acc.length + s.1.length ≤ 1000000
  ps : Id.Ps wr b s
  kw : Tk.KW wr
  gb : w.grownBy wr (some b)
  row : Id.SortsR wr (some w.heap.size) v acc
  out : Id.sortsF n s acc = R
theorem Id.SortsAt.put {w wr w' : World} {b n : Nat} {R : List Id.Srt × Id.St} {v v' : Value} {s s' : Id.St} {acc : List Id.Srt} {x : Id.Srt} (hbw : b < w.heap.size) (hb0 : 0 < b) (h : Id.SortsAt w b R n v wr s acc) {w1 : World} (hg : wr.grownBy w1 (some b)) (hp : Id.Ps w1 b s')
    (hrow : (∀ cs x, Id.SortE w1 cs x → Id.SortE w' cs x) → Id.SortE w' x.cells x → ERow w' (some w.heap.size) 60 2 Id.SortE v' (acc ++ [x])) (hb : Below w.heap.size w1 w') (ho : Only 60 w1 w') :
    Id.Ps w' b s' ∧ Tk.KW w' ∧ w.grownBy w' (some b) ∧ Id.SortsR w' (some w.heap.size) v' (acc ++ [x]) :=
  have hg1 := gb_trans h.gb hg
  have hk1 := h.kw.grown hg hb0
  ⟨hp.only ho (by decide) (by decide), ⟨Nat.lt_of_lt_of_le hk1.1 hb.size, fun j hj => (hb.cell (p := ⟨0, 0 + j, none⟩) (by simp; omega)).trans (hk1.2 j hj)⟩, gb_join hg1 hb, hrow (fun _ _ h => h) rfl⟩
set_option maxRecDepth 100000 in
set_option maxHeartbeats 4000000 in
theorem psorts_any (b : Nat) (hb0 : 0 < b) (s0 : Id.St) (hsz : s0.1.length ≤ 1000000) (w : World) (hk : Tk.KW w) (h : Id.Ps w b s0) :
    Calls Tryz.prog 55 #[.pointer (some ⟨b, 0, none⟩)] w fun e w' => ∃ v, e = .returned v ∧ w.grownBy w' (some b) ∧ Id.Ps w' b (Id.sorts s0).2 ∧ Id.SortsR w' (some w.heap.size) v (Id.sorts s0).1 := by
  obtain ⟨R, HR⟩ : ∃ R, Hid (Id.sorts s0 = R) := ⟨_, Lib.hid rfl⟩
  rw [HR.out]
  have hbw := h.lt
  have HH := Lib.hid (show Id.SortsAt w b R (s0.1.length + 1) (.slice none 0 0) w s0 [] from ⟨Nat.le_refl _, by simp; omega, h, hk, gb_refl _ _, ERow.nil _ _ _ _ _, HR.out⟩)
  clear h hk HR
  go_enter Tryz.func55, Tryz.ntmps55
  go_wp2_with fail
  go_loopg [3] (s0.1.length + 1) (fun n l wr => ∃ (s : Id.St) (acc : List Id.Srt) (lv : Value), lv = l ∧ Hid (Id.SortsAt w b R n lv wr s acc))
  case atStart => exact ⟨s0, [], _, rfl, HH⟩
  case round =>
    obtain ⟨s, acc, lv, rfl, HA⟩ := hrel
    obtain ⟨f, rfl⟩ : ∃ f, gk = f + 1 := ⟨gk - 1, by have := HA.out.fu; omega⟩
    obtain ⟨l, bad⟩ := s
    obtain ⟨A, c, hk, hr, hc, hc2, hne⟩ := HA.out.ps.lies
    obtain ⟨⟨c0, c1⟩, f0, f1⟩ := hk.k2
    have hln := HA.out.ln
    have hfu := HA.out.fu
    simp only at hln hfu
    have hzr := HA.out.gb.size
    cases bad
    case true =>
      have HE : Hid (R = ([], (l, true))) := Lib.hid (by rw [← HA.out.out]; rfl)
      clear hk hr hne
      go_wp2_with fail
      go_ret
      exact ⟨_, rfl, HA.out.gb, by rw [HE.out]; exact HA.out.ps, by rw [HE.out]; exact ERow.nil _ _ _ _ _⟩
    clear hr hne hk hc
    go_wp2_with fail
    refine (ptake_any b (l, false) Id.wList _ HA.out.ps).mono ?_
    rintro e w1 ⟨rfl, hg1, hp1⟩
    have hz1 := hg1.size
    cases hi : Id.is (l, false) Id.wList
    case true =>
      have hlt := Id.is_len hi
      simp only at hlt
      have HT : Hid (Id.take (l, false) Id.wList = (true, (l.tail, false))) := Lib.hid (by unfold Id.take; rw [hi]; rfl)
      rw [HT.out] at hp1 ⊢
      simp only at hp1 ⊢
      have HE : Hid (Id.sortsF f (l.tail, false) (acc ++ [⟨5, ⟨#[]⟩⟩]) = R) := Lib.hid (by rw [← HA.out.out]; simp [Id.sortsF, hi])
      have HRW : Hid (ERow w1 (some w.heap.size) 60 2 Id.SortE lv acc) := Lib.hid (HA.out.row.kp (Kp.grown hg1 hbw) (Nat.le_refl _) (List.mem_singleton.2 rfl) (fun _ _ h => h))
      clear hi
      go_wp2_with (at_builtin; go_must (refine wpList_append_el rfl _ _ _ rfl w.heap.size 60 _ 2 24 Tryz.underlying35 Id.info_sort rfl (by decide) Id.SortE lv acc rfl HRW.out [.int .u8 5, .string ⟨#[]⟩] rfl _ rfl (by simp) (by simp [Value.oneCell']) (by simp only [maxLen]; omega) (by omega) (by omega) ?_); intro v' w2 hrow2 hb2 ho2; have HP2 := Lib.hid (Id.SortsAt.put (x := ⟨5, ⟨#[]⟩⟩) hbw hb0 HA.out hg1 hp1 (hrow2 ⟨5, ⟨#[]⟩⟩) hb2 ho2); clear hrow2 hb2 ho2)
      go_roundg f
      case rel => exact ⟨_, _, v', rfl, Lib.hid ⟨by simp only; omega, by simp; omega, HP2.out.1, HP2.out.2.1, HP2.out.2.2.1, HP2.out.2.2.2, HE.out⟩⟩
      case measure => omega
    have HT : Hid (Id.take (l, false) Id.wList = (false, (l, false))) := Lib.hid (by unfold Id.take; rw [hi]; rfl)
    rw [HT.out] at hp1 ⊢
    simp only at hp1 ⊢
    have HI := Lib.hid hi
    clear hi c0 c1 f0 f1
    go_wp2_with fail
    refine (ptake_any b (l, false) Id.wOpt _ hp1).mono ?_
    rintro e w2 ⟨rfl, hg2, hp2⟩
    replace hg1 := gb_trans hg1 hg2
    clear hp1 hg2 hz1
    have hz1 := hg1.size
    cases hi : Id.is (l, false) Id.wOpt
    case true =>
      have hlt := Id.is_len hi
      simp only at hlt
      have HT : Hid (Id.take (l, false) Id.wOpt = (true, (l.tail, false))) := Lib.hid (by unfold Id.take; rw [hi]; rfl)
      rw [HT.out] at hp2 ⊢
      simp only at hp2 ⊢
      have HE : Hid (Id.sortsF f (l.tail, false) (acc ++ [⟨6, ⟨#[]⟩⟩]) = R) := Lib.hid (by rw [← HA.out.out]; simp [Id.sortsF, hi, HI.out])
      have HRW : Hid (ERow w2 (some w.heap.size) 60 2 Id.SortE lv acc) := Lib.hid (HA.out.row.kp (Kp.grown hg1 hbw) (Nat.le_refl _) (List.mem_singleton.2 rfl) (fun _ _ h => h))
      have hp1 := hp2
      clear hi hp2
      go_wp2_with (at_builtin; go_must (refine wpList_append_el rfl _ _ _ rfl w.heap.size 60 _ 2 24 Tryz.underlying35 Id.info_sort rfl (by decide) Id.SortE lv acc rfl HRW.out [.int .u8 6, .string ⟨#[]⟩] rfl _ rfl (by simp) (by simp [Value.oneCell']) (by simp only [maxLen]; omega) (by omega) (by omega) ?_); intro v' w2 hrow2 hb2 ho2; have HP2 := Lib.hid (Id.SortsAt.put (x := ⟨6, ⟨#[]⟩⟩) hbw hb0 HA.out hg1 hp1 (hrow2 ⟨6, ⟨#[]⟩⟩) hb2 ho2); clear hrow2 hb2 ho2)
      go_roundg f
      case rel => exact ⟨_, _, v', rfl, Lib.hid ⟨by simp only; omega, by simp; omega, HP2.out.1, HP2.out.2.1, HP2.out.2.2.1, HP2.out.2.2.2, HE.out⟩⟩
      case measure => omega
    have HT2 : Hid (Id.take (l, false) Id.wOpt = (false, (l, false))) := Lib.hid (by unfold Id.take; rw [hi]; rfl)
    rw [HT2.out] at hp2 ⊢
    simp only at hp2 ⊢
    have HI2 := Lib.hid hi
    clear hi
    obtain ⟨A, c, hk, hr, hc, hc2', hne⟩ := hp2.lies
    obtain ⟨⟨c0, c1⟩, f0, f1⟩ := hk.k2
    cases l with
    | nil =>
      simp only [List.length_nil] at c0
      have HE : Hid ((acc ++ [⟨7, (Id.name ([], false)).1⟩], (Id.name ([], false)).2) = R) := Lib.hid (by rw [← HA.out.out]; simp [Id.sortsF, HI.out, HI2.out, Id.ends])
      clear hk hr hne hc
      obtain ⟨⟨nm, s3⟩, HN⟩ : ∃ N, Hid (Id.name ([], false) = N) := ⟨_, Lib.hid rfl⟩
      have HE2 : Hid ((acc ++ [⟨7, nm⟩], s3) = R) := Lib.hid (by rw [← HE.out, HN.out])
      clear HE
      go_wp2_with fail
      refine (pname_any b hb0 ([], false) _ (HA.out.kw.grown hg1 hb0) hp2).mono ?_
      rintro e w3 ⟨rfl, hg3, hp3⟩
      rw [HN.out] at hp3 ⊢
      simp only at hp3 ⊢
      replace hg1 := gb_trans hg1 hg3
      have hz3 := hg1.size
      have HRW : Hid (ERow w3 (some w.heap.size) 60 2 Id.SortE lv acc) := Lib.hid (HA.out.row.kp (Kp.grown hg1 hbw) (Nat.le_refl _) (List.mem_singleton.2 rfl) (fun _ _ h => h))
      clear hg3
      go_wp2_with (at_builtin; go_must (refine wpList_append_el rfl _ _ _ rfl w.heap.size 60 _ 2 24 Tryz.underlying35 Id.info_sort rfl (by decide) Id.SortE lv acc rfl HRW.out [.int .u8 7, .string nm] rfl _ rfl (by simp) (by simp [Value.oneCell']) (by simp only [maxLen]; omega) (by omega) (by omega) ?_); intro v' w4 hrow2 hb2 ho2; have HP2 := Lib.hid (Id.SortsAt.put (x := ⟨7, nm⟩) hbw hb0 HA.out hg1 hp3 (hrow2 ⟨7, nm⟩) hb2 ho2); clear hrow2 hb2 ho2)
      go_ret
      exact ⟨_, rfl, HP2.out.2.2.1, by rw [← HE2.out]; exact HP2.out.1, by rw [← HE2.out]; exact HP2.out.2.2.2⟩
    | cons t r =>
      obtain ⟨g, off, rfl, hcs⟩ := hr (by simp)
      obtain ⟨t0, t1, t2, t3⟩ := hcs 0 (by simp)
      simp only [Nat.zero_mul, Nat.add_zero, List.getElem_cons_zero] at t0 t1 t2 t3
      simp only [List.length_cons] at c0 hk hc hln hfu
      obtain ⟨m, hm⟩ : ∃ m, m = r.length := ⟨_, rfl⟩
      rw [← hm] at c0 hc hk hln hfu
      have HM := Lib.hid hm
      have hm1 : (0 : Int) < (m : Int) + 1 := by omega
      have hm2 : 0 < m + 1 := by omega
      clear hm hcs
      obtain ⟨tk, tt, tn, ta⟩ := t
      simp only at t0 t1 t2 t3
      by_cases hkd : tk = 1
      case neg =>
        have HE : Hid ((acc ++ [⟨7, (Id.name (⟨tk, tt, tn, ta⟩ :: r, false)).1⟩], (Id.name (⟨tk, tt, tn, ta⟩ :: r, false)).2) = R) := Lib.hid (by rw [← HA.out.out]; simp [Id.sortsF, HI.out, HI2.out, Id.ends, hkd])
        have tkd : ((tk : Int) == 1) = false := by rw [beq_eq_false_iff_ne]; omega
        clear hkd
        obtain ⟨⟨nm, s3⟩, HN⟩ : ∃ N, Hid (Id.name (⟨tk, tt, tn, ta⟩ :: r, false) = N) := ⟨_, Lib.hid rfl⟩
        have HE2 : Hid ((acc ++ [⟨7, nm⟩], s3) = R) := Lib.hid (by rw [← HE.out, HN.out])
        clear HE
        go_wp2_with fail
        refine (pname_any b hb0 (⟨tk, tt, tn, ta⟩ :: r, false) _ (HA.out.kw.grown hg1 hb0) hp2).mono ?_
        rintro e w3 ⟨rfl, hg3, hp3⟩
        rw [HN.out] at hp3 ⊢
        simp only at hp3 ⊢
        replace hg1 := gb_trans hg1 hg3
        have hz3 := hg1.size
        have HRW : Hid (ERow w3 (some w.heap.size) 60 2 Id.SortE lv acc) := Lib.hid (HA.out.row.kp (Kp.grown hg1 hbw) (Nat.le_refl _) (List.mem_singleton.2 rfl) (fun _ _ h => h))
        clear hg3
        go_wp2_with (at_builtin; go_must (refine wpList_append_el rfl _ _ _ rfl w.heap.size 60 _ 2 24 Tryz.underlying35 Id.info_sort rfl (by decide) Id.SortE lv acc rfl HRW.out [.int .u8 7, .string nm] rfl _ rfl (by simp) (by simp [Value.oneCell']) (by simp only [maxLen]; omega) (by omega) (by omega) ?_); intro v' w4 hrow2 hb2 ho2; have HP2 := Lib.hid (Id.SortsAt.put (x := ⟨7, nm⟩) hbw hb0 HA.out hg1 hp3 (hrow2 ⟨7, nm⟩) hb2 ho2); clear hrow2 hb2 ho2)
        go_ret
        exact ⟨_, rfl, HP2.out.2.2.1, by rw [← HE2.out]; exact HP2.out.1, by rw [← HE2.out]; exact HP2.out.2.2.2⟩
      subst hkd
      obtain ⟨ew, hew⟩ : ∃ ew, Id.endW tt = ew := ⟨_, rfl⟩
      have HEW := Lib.hid hew
      go_wp2_with fail
      refine (pend_any tt _).mono ?_
      rintro e w' ⟨rfl, hw⟩
      obtain rfl := hw.symm
      rw [hew]
      clear hew
      by_cases he0 : ew = 0
      · have HE : Hid ((acc ++ [⟨7, (Id.name (⟨1, tt, tn, ta⟩ :: r, false)).1⟩], (Id.name (⟨1, tt, tn, ta⟩ :: r, false)).2) = R) := Lib.hid (by rw [← HA.out.out]; simp [Id.sortsF, HI.out, HI2.out, Id.ends, HEW.out, he0])
        subst he0
        obtain ⟨⟨nm, s3⟩, HN⟩ : ∃ N, Hid (Id.name (⟨1, tt, tn, ta⟩ :: r, false) = N) := ⟨_, Lib.hid rfl⟩
        have HE2 : Hid ((acc ++ [⟨7, nm⟩], s3) = R) := Lib.hid (by rw [← HE.out, HN.out])
        clear HE
        go_wp2_with fail
        refine (pname_any b hb0 (⟨1, tt, tn, ta⟩ :: r, false) _ (HA.out.kw.grown hg1 hb0) hp2).mono ?_
        rintro e w3 ⟨rfl, hg3, hp3⟩
        rw [HN.out] at hp3 ⊢
        simp only at hp3 ⊢
        replace hg1 := gb_trans hg1 hg3
        have hz3 := hg1.size
        have HRW : Hid (ERow w3 (some w.heap.size) 60 2 Id.SortE lv acc) := Lib.hid (HA.out.row.kp (Kp.grown hg1 hbw) (Nat.le_refl _) (List.mem_singleton.2 rfl) (fun _ _ h => h))
        clear hg3
        go_wp2_with (at_builtin; go_must (refine wpList_append_el rfl _ _ _ rfl w.heap.size 60 _ 2 24 Tryz.underlying35 Id.info_sort rfl (by decide) Id.SortE lv acc rfl HRW.out [.int .u8 7, .string nm] rfl _ rfl (by simp) (by simp [Value.oneCell']) (by simp only [maxLen]; omega) (by omega) (by omega) ?_); intro v' w4 hrow2 hb2 ho2; have HP2 := Lib.hid (Id.SortsAt.put (x := ⟨7, nm⟩) hbw hb0 HA.out hg1 hp3 (hrow2 ⟨7, nm⟩) hb2 ho2); clear hrow2 hb2 ho2)
        go_ret
        exact ⟨_, rfl, HP2.out.2.2.1, by rw [← HE2.out]; exact HP2.out.1, by rw [← HE2.out]; exact HP2.out.2.2.2⟩
      · have HE : Hid ((acc ++ [⟨ew, ⟨#[]⟩⟩], (r, false)) = R) := Lib.hid (by rw [← HA.out.out]; simp [Id.sortsF, HI.out, HI2.out, Id.ends, Id.head, HEW.out, he0])
        have te0 : ((ew : Int) != 0) = true := by rw [bne_iff_ne]; omega
        clear he0
        go_wp2_with fail
        refine (pend_any tt _).mono ?_
        rintro e w' ⟨rfl, hw⟩
        obtain rfl := hw.symm
        rw [HEW.out]
        have HP := Lib.hid hp2
        have HRW : Hid (ERow w2 (some w.heap.size) 60 2 Id.SortE lv acc) := Lib.hid (HA.out.row.kp (Kp.grown hg1 hbw) (Nat.le_refl _) (List.mem_singleton.2 rfl) (fun _ _ h => h))
        clear hp2 c0 c1 f0 f1 t0 t1 t2 t3 hk hr hc hne
        go_wp2_with (at_builtin; go_must (refine wpList_append_el rfl _ _ _ rfl w.heap.size 60 _ 2 24 Tryz.underlying35 Id.info_sort rfl (by decide) Id.SortE lv acc rfl HRW.out [.int .u8 ew, .string ⟨#[]⟩] rfl _ rfl (by simp) (by simp [Value.oneCell']) (by simp only [maxLen]; omega) (by omega) (by omega) ?_); intro v' w4 hrow2 hb2 ho2; have HP2 := Lib.hid (Id.SortsAt.put (x := ⟨ew, ⟨#[]⟩⟩) hbw hb0 HA.out hg1 HP.out (hrow2 ⟨ew, ⟨#[]⟩⟩) hb2 ho2); clear hrow2 hb2 ho2; obtain ⟨A4, c4, hk4, hr4, hc4, hc42, hne4⟩ := HP2.out.1.lies; obtain ⟨g4, off4, rfl, _⟩ := hr4 (by simp); have HTY := Lib.hid (HP2.out.1.typ _ _ _ _ _ hk4); simp only [List.length_cons] at hk4 hc4; rw [← HM.out] at hk4 hc4; obtain ⟨⟨c0, c1⟩, f0, f1⟩ := hk4.k2; have i1 : (1 : Int) ≤ (m : Int) + 1 := (by omega); have i2 : (m : Int) + 1 ≤ (c4 : Int) := (by omega); have i3 : 1 ≤ m + 1 := (by omega); have i4 : m + 1 ≤ c4 := (by omega))
        all_goals
          go_ret
          exact ⟨_, rfl, gb_set HP2.out.2.2.1 (.inl rfl) _, by rw [← HE.out]; exact Id.Ps.next hk4 hr4 HM.out hne4 HTY.out hc42 hc4 (by first | exact .inl ⟨rfl, rfl⟩ | exact .inr ⟨by omega, rfl⟩), by rw [← HE.out]; exact (HP2.out.2.2.2).kp (Kp.grown (grown_set _ _ _ _) hbw) (Nat.le_refl _) (List.mem_singleton.2 rfl) (fun _ _ h => h)⟩
end Go.Proofs.YtmncppnpppdfkaaGreatDoor
set_option linter.unusedVariables false
set_option linter.unusedSimpArgs false
namespace Go.Proofs.YtmncppnpppdfkaaGreatDoor
open Go.RowKit
namespace Id
structure Fld where
  name : ByteArray
  type : List Srt
def FldE (B : Option Nat) (w : World) (cs : List Value) (x : Fld) : Prop := ∃ u, cs = [.string x.name, u] ∧ SortsR w B u x.type
def FldsR (w : World) (B : Option Nat) (v : Value) (l : List Fld) : Prop := ERow w B 68 2 (FldE B) v l
def sColon : ByteArray := ⟨#[58]⟩
def sSemi : ByteArray := ⟨#[59]⟩
def field (s : St) : Fld × St := (⟨(name s).1, (sorts (want (name s).2 sColon)).1⟩, want (sorts (want (name s).2 sColon)).2 sSemi)
theorem one_le (s : St) (k : Nat) (p : Tk.Tok → Bool) : (one s k p).2.1.length ≤ s.1.length := by
  obtain ⟨l, bad⟩ := s
  unfold one
  split
  · rename_i h; injection h with h1 h2; subst h1
    split <;> simp
  · rename_i h; injection h with h1 h2; subst h1; simp
theorem name_le (s : St) : (name s).2.1.length ≤ s.1.length := one_le s _ _
theorem want_le (s : St) (x : ByteArray) : (want s x).1.length ≤ s.1.length := by
  unfold want; split <;> simp
theorem take_le (s : St) (x : ByteArray) : (take s x).2.1.length ≤ s.1.length := by
  unfold take; split <;> simp
theorem sortsF_le : ∀ (f : Nat) (s : St) (acc : List Srt), (sortsF f s acc).2.1.length ≤ s.1.length
  | 0, s, acc => Nat.le_refl _
  | f + 1, s, acc => by
    unfold sortsF
    split
    · exact Nat.le_refl _
    · split
      · exact Nat.le_trans (sortsF_le f _ _) (by simp)
      · split
        · exact Nat.le_trans (sortsF_le f _ _) (by simp)
        · split
          · simp
          · exact name_le s
theorem sorts_le (s : St) : (sorts s).2.1.length ≤ s.1.length := sortsF_le _ _ _
theorem field_le (s : St) : (field s).2.1.length ≤ s.1.length := Nat.le_trans (want_le _ _) (Nat.le_trans (sorts_le _) (Nat.le_trans (want_le _ _) (name_le _)))
end Id
set_option maxRecDepth 100000 in
set_option maxHeartbeats 4000000 in
theorem pfield_any (b : Nat) (hb0 : 0 < b) (s0 : Id.St) (hsz : s0.1.length ≤ 1000000) (w : World) (hk : Tk.KW w) (h : Id.Ps w b s0) :
    Calls Tryz.prog 113 #[.pointer (some ⟨b, 0, none⟩)] w fun e w' => ∃ v, e = .returned (.agg #[.string (Id.field s0).1.name, v]) ∧ w.grownBy w' (some b) ∧ Id.Ps w' b (Id.field s0).2 ∧ Id.SortsR w' (some w.heap.size) v (Id.field s0).1.type := by
  unfold Id.field
  have hl1 := Nat.le_trans (Id.want_le (Id.name s0).2 Id.sColon) (Id.name_le s0)
  obtain ⟨⟨nm, s1⟩, HN⟩ : ∃ R, Hid (Id.name s0 = R) := ⟨_, Lib.hid rfl⟩
  rw [HN.out] at hl1 ⊢
  simp only at hl1 ⊢
  obtain ⟨s2, H2⟩ : ∃ R, Hid (Id.want s1 Id.sColon = R) := ⟨_, Lib.hid rfl⟩
  rw [H2.out] at hl1 ⊢
  obtain ⟨⟨ty, s3⟩, H3⟩ : ∃ R, Hid (Id.sorts s2 = R) := ⟨_, Lib.hid rfl⟩
  rw [H3.out]
  simp only
  have hbw := h.lt
  have hbn : ¬ b = w.heap.size := by omega
  have hbl := (Below.refl w.heap.size w).alloc (Nat.le_refl _) (.cells #[.string ⟨#[]⟩, .slice none 0 0] 68)
  have hq := Bk.new w 68 #[.string ⟨#[]⟩, .slice none 0 0]
  have HK := Lib.hid (hk.below hbl)
  have HP := Lib.hid (h.below hbl)
  clear hk h
  go_enter Tryz.func113, Tryz.ntmps113
  go_wp2_with fail
  refine (pname_any b hb0 s0 _ HK.out HP.out).mono ?_
  rintro e w1 ⟨rfl, hg1, hp1⟩
  rw [HN.out] at hp1 ⊢
  simp only at hp1 ⊢
  have hq1 := hq.grown hg1 (by intro e; injection e with e; omega)
  have hG := gb_trans (gb_below hbl (some b)) hg1
  have hk1 := HK.out.grown hg1 hb0
  clear hq hbl hg1 HK HP
  have hz1 := hG.size
  go_wp2_with fail
  have hb2 := (Below.refl w1.heap.size w1).alloc (Nat.le_refl _) (.cells #[.string nm, .slice none 0 0] 68)
  have hf1 := Bk.new w1 68 #[.string nm, .slice none 0 0]
  obtain ⟨fb, hfb⟩ : ∃ fb, Hid (w1.heap.size = fb) := ⟨_, Lib.hid rfl⟩
  refine (pwant_any b s1 Id.sColon _ (hp1.below hb2)).mono ?_
  rintro e w2 ⟨rfl, hg2, hp2⟩
  rw [hfb.out] at hf1 ⊢
  have hfr : w.heap.size < fb := by rw [← hfb.out]; exact hq1.lt
  have hrf : ¬ w.heap.size = fb := by omega
  have hbf : ¬ b = fb := by omega
  rw [H2.out] at hp2
  have hq2 := (hq1.below hb2 hq1.lt).grown hg2 (by intro e; injection e with e; omega)
  have hf2 := hf1.grown hg2 (by intro e; injection e with e; omega)
  have hk2 := (hk1.below hb2).grown hg2 hb0
  replace hG := gb_trans (gb_alloc hG _) hg2
  clear hq1 hf1 hk1 hg2 hb2 hp1 hz1
  have hz2 := hG.size
  go_wp2_with fail
  refine (psorts_any b hb0 s2 (by omega) _ hk2 hp2).mono ?_
  rintro e w3 ⟨v, rfl, hg3, hp3, hr3⟩
  rw [H3.out] at hp3 hr3
  simp only at hp3 hr3
  have hq3 := hq2.grown hg3 (by intro e; injection e with e; omega)
  have hf3 := hf2.grown hg3 (by intro e; injection e with e; omega)
  have hk3 := hk2.grown hg3 hb0
  replace hG := gb_trans hG hg3
  replace hr3 : Id.SortsR w3 (some w.heap.size) v ty := hr3.mono (fun _ _ h => h.weak (fun b' e => ⟨_, rfl, by injection e with e; omega⟩)) (fun _ _ h => h)
  clear hq2 hf2 hk2 hg3 hp2
  obtain ⟨⟨f0, f1⟩, f2, f3⟩ := hf3.k2
  obtain ⟨A, n, cc, rfl⟩ := ERow.is hr3
  have HR3 := Lib.hid hr3
  clear hr3
  go_wp2_with fail
  have ho4 := Only.set hf3 1 (.slice A n cc)
  have hp4 := hp3.only ho4 (by decide) (by decide)
  have hr4 := HR3.out.kp (ho4.kp w.heap.size (T := [60]) (by decide)) (Nat.le_refl _) (List.mem_singleton.2 rfl) (fun _ _ h => h)
  have hq4 := hq3.far (p := ⟨fb, 1, none⟩) hrf (.slice A n cc)
  have hf4 := hf3.set_ 1 (.slice A n cc)
  have hG4 : w.grownBy (w3.setCell ⟨fb, 1, none⟩ (.slice A n cc)) (some b) := gb_set hG (.inr (by show w.heap.size ≤ fb; omega)) _
  clear f0 f1 f2 f3 hf3 hp3 hq3 hk3 hG HR3
  generalize (w3.setCell ⟨fb, 1, none⟩ (.slice A n cc)) = w4 at *
  refine (pwant_any b s3 Id.sSemi _ hp4).mono ?_
  rintro e w5 ⟨rfl, hg5, hp5⟩
  have hq5 := hq4.grown hg5 (by intro e; injection e with e; omega)
  have hf5 := hf4.grown hg5 (by intro e; injection e with e; omega)
  have hG5 := gb_trans hG4 hg5
  have HR5 : Hid (Id.SortsR w5 (some w.heap.size) (.slice A n cc) ty) := Lib.hid (ERow.kp hr4 (Kp.grown hg5 hbw) (Nat.le_refl _) (List.mem_singleton.2 rfl) (fun _ _ h => h))
  clear hq4 hf4 hr4 hG4 hp4 hg5
  obtain ⟨⟨f0, f1⟩, f2, f3⟩ := hf5.k2
  obtain ⟨⟨q0, q1⟩, q2, q3⟩ := hq5.k2
  go_wp2_with fail
  have ho6 := (Only.set hq5 0 (.string nm)).trans (Only.set (hq5.set_ 0 (.string nm)) 1 (.slice A n cc))
  have hqf := (hq5.set_ 0 (.string nm)).set_ 1 (.slice A n cc)
  have hG6 := gb_set (gb_set hG5 (p := ⟨w.heap.size, 0, none⟩) (.inr (Nat.le_refl _)) (.string nm)) (p := ⟨w.heap.size, 1, none⟩) (.inr (Nat.le_refl _)) (.slice A n cc)
  generalize ((w5.setCell ⟨w.heap.size, 0, none⟩ (.string nm)).setCell ⟨w.heap.size, 1, none⟩ (.slice A n cc)) = w6 at *
  obtain ⟨⟨r0, r1⟩, _⟩ := hqf.k2
  refine bodyPost_ret (v := .agg #[.string nm, .slice A n cc]) ?_ rfl ⟨_, rfl, hG6, hp5.only ho6 (by decide) (by decide), HR5.out.kp (ho6.kp w.heap.size (T := [60]) (by decide)) (Nat.le_refl _) (List.mem_singleton.2 rfl) (fun _ _ h => h)⟩
  rw [res_c rfl]
  go_simp
  try rfl
end Go.Proofs.YtmncppnpppdfkaaGreatDoor
set_option linter.unusedVariables false
set_option linter.unusedSimpArgs false
namespace Go.Proofs.YtmncppnpppdfkaaGreatDoor
open Go.RowKit
/-- How far a parser's function has come. -/
structure Id.PW (w0 w : World) (b : Nat) (s : Id.St) : Prop where
  ps : Id.Ps w b s
  kw : Tk.KW w
  gb : w0.grownBy w (some b)
namespace Id.PW
theorem start {w : World} {b : Nat} {s : Id.St} (h : Id.Ps w b s) (hk : Tk.KW w) : Id.PW w w b s := ⟨h, hk, gb_refl _ _⟩
theorem below {w0 w w' : World} {b : Nat} {s : Id.St} (h : Id.PW w0 w b s) (hb : Below w.heap.size w w') : Id.PW w0 w' b s := ⟨h.ps.below hb, h.kw.below hb, gb_trans h.gb (gb_below hb _)⟩
theorem alloc {w0 w : World} {b : Nat} {s : Id.St} (h : Id.PW w0 w b s) (o : Obj) : Id.PW w0 (w.alloc o) b s := h.below ((Below.refl _ _).alloc (Nat.le_refl _) _)
theorem call {w0 w w' : World} {b : Nat} {s s' : Id.St} (h : Id.PW w0 w b s) (hb : 0 < b) (hg : w.grownBy w' (some b)) (hp : Id.Ps w' b s') : Id.PW w0 w' b s' := ⟨hp, h.kw.grown hg hb, gb_trans h.gb hg⟩
theorem set {w0 w : World} {b g : Nat} {s : Id.St} {t : TypeId} {cs : Array Value} (h : Id.PW w0 w b s) (hk : Bk w g t cs) (hg : w0.heap.size ≤ g) (hg0 : 0 < g) (h1 : 154 ≠ t) (h2 : 152 ≠ t) (j : Nat) (u : Value) : Id.PW w0 (w.setCell ⟨g, j, none⟩ u) b s :=
  ⟨h.ps.only (Only.set hk j u) h1 h2, h.kw.grown (grown_set _ _ _ _) hg0, gb_set h.gb (.inr hg) u⟩
theorem lt {w0 w : World} {b : Nat} {s : Id.St} (h : Id.PW w0 w b s) : b < w.heap.size := h.ps.lt
end Id.PW
/-- A block of the call's own, behind a call. -/
theorem Bk.call {w w' : World} {b g : Nat} {t : TypeId} {cs : Array Value} (h : Bk w g t cs) (hg : w.grownBy w' (some b)) (hb : b < g) : Bk w' g t cs := h.grown hg (by intro e; injection e with e; omega)
namespace Id
def sOpen : ByteArray := ⟨#[40]⟩
def sClose : ByteArray := ⟨#[41]⟩
def arg (s : St) : ByteArray × St := ((name (want s sOpen)).1, want (name (want s sOpen)).2 sClose)
theorem arg_le (s : St) : (arg s).2.1.length ≤ s.1.length := Nat.le_trans (want_le _ _) (Nat.le_trans (name_le _) (want_le _ _))
structure Stp where
  service : ByteArray
  method : ByteArray
  at_ : Int
def Stp.cells (x : Stp) : List Value := [.string x.service, .string x.method, .int .i64 x.at_]
def StpE (w : World) (cs : List Value) (x : Stp) : Prop := cs = x.cells
def wDo : ByteArray := ⟨#[100, 111]⟩
def sDot : ByteArray := ⟨#[46]⟩
def wAt : ByteArray := ⟨#[97, 116]⟩
def num (s : St) : Nat × St := ((one s 2 (fun _ => true)).1.num, (one s 2 (fun _ => true)).2)
def step (s : St) : Stp × St :=
  let a := name (want s wDo)
  let c := name (want a.2 sDot)
  let d := num (want c.2 wAt)
  (⟨a.1, c.1, d.1⟩, want d.2 sSemi)
theorem num_le (s : St) : (num s).2.1.length ≤ s.1.length := one_le s _ _
theorem step_le (s : St) : (step s).2.1.length ≤ s.1.length := Nat.le_trans (want_le _ _) (Nat.le_trans (num_le _) (Nat.le_trans (want_le _ _) (Nat.le_trans (name_le _) (Nat.le_trans (want_le _ _) (Nat.le_trans (name_le _) (want_le _ _))))))
end Id
theorem field_num (a b c d : Value) (w : World) : Sem.run Tryz.prog (Instr.field 154 (.agg #[a, b, c, d]) 2) w = .ok c w := by kernel_rfl
set_option maxRecDepth 100000 in
set_option maxHeartbeats 4000000 in
theorem pwant_d (b : Nat) (s : Id.St) (text : ByteArray) (w : World) (h : Id.Ps w b s) (u : FrameMode) :
    CallsD Tryz.prog 110 #[.pointer (some ⟨b, 0, none⟩), .string text] u w fun e u' w' => u' = u ∧ e = .returned (.tuple #[]) ∧ w.grownBy w' (some b) ∧ Id.Ps w' b (Id.want s text) := by
  have HPS := Lib.hid h
  obtain ⟨R, HR⟩ : ∃ R, Hid (Id.want s text = R) := ⟨_, Lib.hid rfl⟩
  rw [HR.out]
  go_enter_d Tryz.func110, Tryz.ntmps110
  go_wp2_with fail
  refine (ptake_any b s text _ h).mono ?_
  rintro e w1 ⟨rfl, hg, hp⟩
  cases hi : Id.is s text
  · have HT : Hid (Id.take s text = (false, s)) := Lib.hid (by unfold Id.take; rw [hi]; rfl)
    have HE : Hid (R = (s.1, true)) := Lib.hid (by rw [← HR.out]; unfold Id.want; rw [hi]; rfl)
    rw [HT.out] at hp ⊢
    simp only at hp ⊢
    obtain ⟨A, c, hk, _⟩ := hp.lies
    obtain ⟨⟨c0, c1⟩, f0, f1⟩ := hk.k2
    have HP := Lib.hid hp
    clear hp hk
    go_wp2_with fail
    refine bodyPost_end (results_none rfl _ _ _) rfl ?_
    exact ⟨rfl, gb_set hg (.inl rfl) _, by rw [HE.out]; exact HP.out.fault⟩
  · have HT : Hid (Id.take s text = (true, (s.1.tail, s.2))) := Lib.hid (by unfold Id.take; rw [hi]; rfl)
    have HE : Hid (R = (s.1.tail, s.2)) := Lib.hid (by rw [← HR.out]; unfold Id.want; rw [hi]; rfl)
    rw [HT.out] at hp ⊢
    simp only at hp ⊢
    go_wp2_with fail
    refine bodyPost_end (results_none rfl _ _ _) rfl ?_
    exact ⟨rfl, hg, by rw [HE.out]; exact hp⟩
set_option maxRecDepth 100000 in
set_option maxHeartbeats 4000000 in
theorem parg_any (b : Nat) (hb0 : 0 < b) (s0 : Id.St) (w : World) (hk : Tk.KW w) (h : Id.Ps w b s0) :
    Calls Tryz.prog 116 #[.pointer (some ⟨b, 0, none⟩)] w fun e w' => e = .returned (.string (Id.arg s0).1) ∧ w.grownBy w' (some b) ∧ Id.Ps w' b (Id.arg s0).2 := by
  unfold Id.arg
  obtain ⟨s1, H1⟩ : ∃ R, Hid (Id.want s0 Id.sOpen = R) := ⟨_, Lib.hid rfl⟩
  rw [H1.out]
  obtain ⟨⟨nm, s2⟩, H2⟩ : ∃ R, Hid (Id.name s1 = R) := ⟨_, Lib.hid rfl⟩
  rw [H2.out]
  simp only
  go_enter_defers Tryz.func116, Tryz.ntmps116
  go_wp2_with fail
  refine (pwant_any b s0 Id.sOpen _ h).mono ?_
  rintro e w1 ⟨rfl, hg1, hp1⟩
  rw [H1.out] at hp1
  have hW := (Id.PW.start h hk).call hb0 hg1 hp1
  clear h hk hg1 hp1
  go_wp2_with fail
  refine (pname_any b hb0 s1 _ hW.kw hW.ps).mono ?_
  rintro e w2 ⟨rfl, hg2, hp2⟩
  rw [H2.out] at hp2 ⊢
  simp only at hp2 ⊢
  replace hW := hW.call hb0 hg2 hp2
  clear hg2 hp2
  go_wp2_with fail
  refine leaves_cons (fn := Tryz.f116) (by simp) (run_callFunc_body Tryz.func110 (by kernel_rfl) (by kernel_rfl) _ _) ?_
  refine (pwant_d b s2 Id.sClose _ hW.ps _).mono ?_
  rintro e u' w3 ⟨rfl, rfl, hg3, hp3⟩
  replace hW := hW.call hb0 hg3 hp3
  refine ⟨.string nm, ?_, rfl, hW.gb, hW.ps⟩
  simp [results, Tryz.f116, go_sem]
set_option maxRecDepth 100000 in
set_option maxHeartbeats 4000000 in
theorem pstep_any (b : Nat) (hb0 : 0 < b) (s0 : Id.St) (w : World) (hk : Tk.KW w) (h : Id.Ps w b s0) :
    Calls Tryz.prog 118 #[.pointer (some ⟨b, 0, none⟩)] w fun e w' => e = .returned (.agg #[.string (Id.step s0).1.service, .string (Id.step s0).1.method, .int .i64 (Id.step s0).1.at_]) ∧ w.grownBy w' (some b) ∧ Id.Ps w' b (Id.step s0).2 := by
  unfold Id.step Id.num
  obtain ⟨s1, H1⟩ : ∃ R, Hid (Id.want s0 Id.wDo = R) := ⟨_, Lib.hid rfl⟩
  rw [H1.out]
  obtain ⟨⟨n1, s2⟩, H2⟩ : ∃ R, Hid (Id.name s1 = R) := ⟨_, Lib.hid rfl⟩
  simp only [H2.out]
  obtain ⟨s3, H3⟩ : ∃ R, Hid (Id.want s2 Id.sDot = R) := ⟨_, Lib.hid rfl⟩
  simp only [H3.out]
  obtain ⟨⟨n2, s4⟩, H4⟩ : ∃ R, Hid (Id.name s3 = R) := ⟨_, Lib.hid rfl⟩
  simp only [H4.out]
  obtain ⟨s5, H5⟩ : ∃ R, Hid (Id.want s4 Id.wAt = R) := ⟨_, Lib.hid rfl⟩
  simp only [H5.out]
  obtain ⟨⟨⟨tk, tt, tn, ta⟩, s6⟩, H6⟩ : ∃ R, Hid (Id.one s5 2 (fun _ => true) = R) := ⟨_, Lib.hid rfl⟩
  simp only [H6.out]
  have hbw := h.lt
  have hq := Bk.new w 88 #[.string ⟨#[]⟩, .string ⟨#[]⟩, .int .i64 0]
  have hW := (Id.PW.start h hk).alloc (.cells #[.string ⟨#[]⟩, .string ⟨#[]⟩, .int .i64 0] 88)
  clear h hk
  go_enter Tryz.func118, Tryz.ntmps118
  go_wp2_with fail
  refine (pwant_any b s0 Id.wDo _ hW.ps).mono ?_
  rintro e w1 ⟨rfl, hg, hp⟩
  rw [H1.out] at hp
  replace hW := hW.call hb0 hg hp
  replace hq := hq.call hg hbw
  clear hg hp
  go_wp2_with fail
  refine (pname_any b hb0 s1 _ hW.kw hW.ps).mono ?_
  rintro e w2 ⟨rfl, hg, hp⟩
  rw [H2.out] at hp ⊢
  simp only at hp ⊢
  replace hW := hW.call hb0 hg hp
  replace hq := hq.call hg hbw
  clear hg hp
  go_wp2_with fail
  have hf := Bk.new w2 88 #[.string n1, .string ⟨#[]⟩, .int .i64 0]
  have hrf := hq.lt
  replace hq := hq.alloc (.cells #[.string n1, .string ⟨#[]⟩, .int .i64 0] 88)
  replace hW := hW.alloc (.cells #[.string n1, .string ⟨#[]⟩, .int .i64 0] 88)
  generalize hfb : w2.heap.size = fb at *
  have HFB := Lib.hid hfb
  clear hfb
  refine (pwant_any b s2 Id.sDot _ hW.ps).mono ?_
  rintro e w3 ⟨rfl, hg, hp⟩
  rw [H3.out] at hp
  replace hW := hW.call hb0 hg hp
  replace hq := hq.call hg hbw
  replace hf := hf.call hg (by omega)
  clear hg hp
  go_wp2_with fail
  refine (pname_any b hb0 s3 _ hW.kw hW.ps).mono ?_
  rintro e w4 ⟨rfl, hg, hp⟩
  rw [H4.out] at hp ⊢
  simp only at hp ⊢
  replace hW := hW.call hb0 hg hp
  replace hq := hq.call hg hbw
  replace hf := hf.call hg (by omega)
  clear hg hp
  obtain ⟨⟨f0, f1, f2⟩, f3, f4, f5⟩ := hf.k3
  go_wp2_with fail
  clear f0 f1 f2 f3 f4 f5
  replace hW := hW.set hf (by omega) (by omega) (by decide) (by decide) 1 (.string n2)
  replace hq := hq.far (p := ⟨fb, 1, none⟩) (by show ¬ w.heap.size = fb; omega) (.string n2)
  replace hf : Bk (w4.setCell ⟨fb, 1, none⟩ (.string n2)) fb 88 #[.string n1, .string n2, .int .i64 0] := hf.set_ 1 (.string n2)
  refine (pwant_any b s4 Id.wAt _ hW.ps).mono ?_
  rintro e w5 ⟨rfl, hg, hp⟩
  rw [H5.out] at hp
  replace hW := hW.call hb0 hg hp
  replace hq := hq.call hg hbw
  replace hf := hf.call hg (by omega)
  clear hg hp
  go_wp2_with fail
  refine (pone_num b s5 _ hW.ps).mono ?_
  rintro e w6 ⟨rfl, hg, hp⟩
  rw [H6.out] at hp ⊢
  simp only [Tk.Tok.val] at hp ⊢
  replace hW := hW.call hb0 hg hp
  replace hq := hq.call hg hbw
  replace hf := hf.call hg (by omega)
  clear hg hp
  obtain ⟨⟨f0, f1, f2⟩, f3, f4, f5⟩ := hf.k3
  have hfl := field_num
  go_wp2_with fail
  clear f0 f1 f2 f3 f4 f5 hfl
  replace hW := hW.set hf (by omega) (by omega) (by decide) (by decide) 2 (.int .i64 tn)
  replace hq := hq.far (p := ⟨fb, 2, none⟩) (by show ¬ w.heap.size = fb; omega) (.int .i64 tn)
  replace hf : Bk (w6.setCell ⟨fb, 2, none⟩ (.int .i64 tn)) fb 88 #[.string n1, .string n2, .int .i64 tn] := hf.set_ 2 (.int .i64 tn)
  refine (pwant_any b s6 Id.sSemi _ hW.ps).mono ?_
  rintro e w7 ⟨rfl, hg, hp⟩
  replace hW := hW.call hb0 hg hp
  replace hq := hq.call hg hbw
  replace hf := hf.call hg (by omega)
  clear hg hp
  obtain ⟨⟨f0, f1, f2⟩, f3, f4, f5⟩ := hf.k3
  obtain ⟨⟨q0, q1, q2⟩, q3, q4, q5⟩ := hq.k3
  go_wp2_with fail
  have hqf := ((hq.set_ 0 (.string n1)).set_ 1 (.string n2)).set_ 2 (.int .i64 tn)
  have hWf := ((hW.set hq (Nat.le_refl _) (by omega) (by decide) (by decide) 0 (.string n1)).set (hq.set_ 0 (.string n1)) (Nat.le_refl _) (by omega) (by decide) (by decide) 1 (.string n2)).set ((hq.set_ 0 (.string n1)).set_ 1 (.string n2)) (Nat.le_refl _) (by omega) (by decide) (by decide) 2 (.int .i64 tn)
  generalize (((w7.setCell ⟨w.heap.size, 0, none⟩ (.string n1)).setCell ⟨w.heap.size, 1, none⟩ (.string n2)).setCell ⟨w.heap.size, 2, none⟩ (.int .i64 tn)) = w8 at *
  obtain ⟨⟨r0, r1, r2⟩, _⟩ := hqf.k3
  refine bodyPost_ret (v := .agg #[.string n1, .string n2, .int .i64 tn]) ?_ rfl ⟨rfl, hWf.gb, hWf.ps⟩
  rw [res_c rfl]
  go_simp
  try rfl
end Go.Proofs.YtmncppnpppdfkaaGreatDoor
set_option linter.unusedVariables false
set_option linter.unusedSimpArgs false
namespace Go.Proofs.YtmncppnpppdfkaaGreatDoor
open Go.RowKit
theorem lie_alloc (w : World) (t : TypeId) (cs : Array Value) (vs : List Value) (h : cs.toList = vs) : Lie (w.alloc (.cells cs t)) (some ⟨w.heap.size, 0, none⟩) vs := fun _ => ⟨_, _, rfl, fun j u hu => by
  rw [Nat.zero_add, (Bk.new w t cs).cell j, ← Array.getElem?_toList, h]
  exact hu⟩
namespace Id
structure Mth where
  name : ByteArray
  arg : ByteArray
  result : Nat
  effect : ByteArray
  undo : ByteArray
def Mth.cells (x : Mth) : List Value := [.string x.name, .string x.arg, .int .u8 x.result, .string x.effect, .string x.undo]
def MthE (w : World) (cs : List Value) (x : Mth) : Prop := cs = x.cells
def wGive : ByteArray := ⟨#[103, 105, 118, 101]⟩
def wTake : ByteArray := ⟨#[116, 97, 107, 101]⟩
def wNote : ByteArray := ⟨#[110, 111, 116, 101]⟩
def wInt : ByteArray := ⟨#[105, 110, 116]⟩
def wNone : ByteArray := ⟨#[110, 111, 110, 101]⟩
def wUndo : ByteArray := ⟨#[117, 110, 100, 111]⟩
def sArrow : ByteArray := ⟨#[45, 62]⟩
def method (s : St) : Mth × St :=
  let a := words [wGive, wTake, wNote] s
  let b := name a.2
  let c := arg b.2
  let d := words [wInt, wNone] (want c.2 sArrow)
  let t := take d.2 wUndo
  let u := if t.1 then name t.2 else (⟨#[]⟩, t.2)
  (⟨b.1, c.1, endW d.1, a.1, u.1⟩, want u.2 sSemi)
theorem words_le (ws : List ByteArray) (s : St) : (words ws s).2.1.length ≤ s.1.length := one_le s _ _
theorem method_le (s : St) : (method s).2.1.length ≤ s.1.length := by
  unfold method
  dsimp only
  have h1 := words_le [wGive, wTake, wNote] s
  generalize words [wGive, wTake, wNote] s = a at *
  have h2 := name_le a.2
  generalize name a.2 = b at *
  have h3 := arg_le b.2
  generalize arg b.2 = c at *
  have h4 := want_le c.2 sArrow
  generalize want c.2 sArrow = s4 at *
  have h5 := words_le [wInt, wNone] s4
  generalize words [wInt, wNone] s4 = d at *
  have h6 := take_le d.2 wUndo
  generalize take d.2 wUndo = t at *
  have h7 := name_le t.2
  refine Nat.le_trans (want_le _ _) ?_
  split
  · omega
  · simp only
    omega
end Id
set_option maxRecDepth 100000 in
set_option maxHeartbeats 4000000 in
theorem pmethod_any (b : Nat) (hb0 : 0 < b) (s0 : Id.St) (w : World) (hk : Tk.KW w) (h : Id.Ps w b s0) :
    Calls Tryz.prog 115 #[.pointer (some ⟨b, 0, none⟩)] w fun e w' => e = .returned (.agg #[.string (Id.method s0).1.name, .string (Id.method s0).1.arg, .int .u8 (Id.method s0).1.result, .string (Id.method s0).1.effect, .string (Id.method s0).1.undo]) ∧ w.grownBy w' (some b) ∧ Id.Ps w' b (Id.method s0).2 := by
  unfold Id.method
  obtain ⟨⟨n1, s1⟩, H1⟩ : ∃ R, Hid (Id.words [Id.wGive, Id.wTake, Id.wNote] s0 = R) := ⟨_, Lib.hid rfl⟩
  simp only [H1.out]
  obtain ⟨⟨n2, s2⟩, H2⟩ : ∃ R, Hid (Id.name s1 = R) := ⟨_, Lib.hid rfl⟩
  simp only [H2.out]
  obtain ⟨⟨n3, s3⟩, H3⟩ : ∃ R, Hid (Id.arg s2 = R) := ⟨_, Lib.hid rfl⟩
  simp only [H3.out]
  obtain ⟨s4, H4⟩ : ∃ R, Hid (Id.want s3 Id.sArrow = R) := ⟨_, Lib.hid rfl⟩
  simp only [H4.out]
  obtain ⟨⟨n4, s5⟩, H5⟩ : ∃ R, Hid (Id.words [Id.wInt, Id.wNone] s4 = R) := ⟨_, Lib.hid rfl⟩
  simp only [H5.out]
  obtain ⟨⟨tb, s6⟩, H6⟩ : ∃ R, Hid (Id.take s5 Id.wUndo = R) := ⟨_, Lib.hid rfl⟩
  simp only [H6.out]
  obtain ⟨⟨nu, s7⟩, H7⟩ : ∃ R, Hid ((if tb = true then Id.name s6 else (⟨#[]⟩, s6)) = R) := ⟨_, Lib.hid rfl⟩
  simp only [H7.out]
  obtain ⟨ew, HEW⟩ : ∃ R, Hid (Id.endW n4 = R) := ⟨_, Lib.hid rfl⟩
  rw [HEW.out]
  have hbw := h.lt
  have hq := Bk.new w 85 #[.string ⟨#[]⟩, .string ⟨#[]⟩, .int .u8 0, .string ⟨#[]⟩, .string ⟨#[]⟩]
  have hW := (Id.PW.start h hk).alloc (.cells #[.string ⟨#[]⟩, .string ⟨#[]⟩, .int .u8 0, .string ⟨#[]⟩, .string ⟨#[]⟩] 85)
  clear h hk
  go_enter Tryz.func115, Tryz.ntmps115
  go_wp2_with fail
  have hL := lie_alloc (w.alloc (.cells #[.string ⟨#[]⟩, .string ⟨#[]⟩, .int .u8 0, .string ⟨#[]⟩, .string ⟨#[]⟩] 85)) 9 #[.string Id.wGive, .string Id.wTake, .string Id.wNote] _ rfl
  rw [World.size_alloc] at hL
  replace hW := hW.alloc (.cells #[.string Id.wGive, .string Id.wTake, .string Id.wNote] 9)
  replace hq := hq.alloc (.cells #[.string Id.wGive, .string Id.wTake, .string Id.wNote] 9)
  refine (pwords_any _ 3 3 [Id.wGive, Id.wTake, Id.wNote] rfl (by omega) b s0 _ hL hW.ps).mono ?_
  rintro e w1 ⟨rfl, hg, hp⟩
  rw [H1.out] at hp ⊢
  simp only at hp ⊢
  replace hW := hW.call hb0 hg hp
  replace hq := hq.call hg (by omega)
  clear hg hp hL
  go_wp2_with fail
  refine (pname_any b hb0 s1 _ hW.kw hW.ps).mono ?_
  rintro e w2 ⟨rfl, hg, hp⟩
  rw [H2.out] at hp ⊢
  simp only at hp ⊢
  replace hW := hW.call hb0 hg hp
  replace hq := hq.call hg (by omega)
  clear hg hp
  go_wp2_with fail
  refine (parg_any b hb0 s2 _ hW.kw hW.ps).mono ?_
  rintro e w3 ⟨rfl, hg, hp⟩
  rw [H3.out] at hp ⊢
  simp only at hp ⊢
  replace hW := hW.call hb0 hg hp
  replace hq := hq.call hg (by omega)
  clear hg hp
  go_wp2_with fail
  have hf := Bk.new w3 85 #[.string n2, .string n3, .int .u8 0, .string n1, .string ⟨#[]⟩]
  have hrf := hq.lt
  replace hq := hq.alloc (.cells #[.string n2, .string n3, .int .u8 0, .string n1, .string ⟨#[]⟩] 85)
  replace hW := hW.alloc (.cells #[.string n2, .string n3, .int .u8 0, .string n1, .string ⟨#[]⟩] 85)
  generalize hfb : w3.heap.size = fb at *
  have HFB := Lib.hid hfb
  clear hfb
  refine (pwant_any b s3 Id.sArrow _ hW.ps).mono ?_
  rintro e w4 ⟨rfl, hg, hp⟩
  rw [H4.out] at hp
  replace hW := hW.call hb0 hg hp
  replace hq := hq.call hg (by omega)
  replace hf := hf.call hg (by omega)
  clear hg hp
  go_wp2_with fail
  have hL := lie_alloc w4 9 #[.string Id.wInt, .string Id.wNone] _ rfl
  replace hW := hW.alloc (.cells #[.string Id.wInt, .string Id.wNone] 9)
  replace hq := hq.alloc (.cells #[.string Id.wInt, .string Id.wNone] 9)
  replace hf := hf.alloc (.cells #[.string Id.wInt, .string Id.wNone] 9)
  refine (pwords_any _ 2 2 [Id.wInt, Id.wNone] rfl (by omega) b s4 _ hL hW.ps).mono ?_
  rintro e w5 ⟨rfl, hg, hp⟩
  rw [H5.out] at hp ⊢
  simp only at hp ⊢
  replace hW := hW.call hb0 hg hp
  replace hq := hq.call hg (by omega)
  replace hf := hf.call hg (by omega)
  clear hg hp
  clear hL
  go_wp2_with fail
  refine (pend_any n4 _).mono ?_
  rintro e w' ⟨rfl, hw⟩
  obtain rfl := hw.symm
  rw [HEW.out]
  obtain ⟨⟨f0, f1, f2, f3, f4⟩, g0, g1, g2, g3, g4⟩ := hf.k5
  go_wp2_with fail
  clear f0 f1 f2 f3 f4 g0 g1 g2 g3 g4
  replace hW := hW.set hf (by omega) (by omega) (by decide) (by decide) 2 (.int .u8 ew)
  replace hq := hq.far (p := ⟨fb, 2, none⟩) (by show ¬ w.heap.size = fb; omega) (.int .u8 ew)
  replace hf : Bk (w5.setCell ⟨fb, 2, none⟩ (.int .u8 ew)) fb 85 #[.string n2, .string n3, .int .u8 ew, .string n1, .string ⟨#[]⟩] := hf.set_ 2 (.int .u8 ew)
  refine (ptake_any b s5 Id.wUndo _ hW.ps).mono ?_
  rintro e w6 ⟨rfl, hg, hp⟩
  rw [H6.out] at hp ⊢
  simp only at hp ⊢
  replace hW := hW.call hb0 hg hp
  replace hq := hq.call hg (by omega)
  replace hf := hf.call hg (by omega)
  clear hg hp
  cases tb
  case' true =>
    replace H7 : Hid (Id.name s6 = (nu, s7)) := Lib.hid (by have := H7.out; simpa using this)
    go_wp2_with fail
    refine (pname_any b hb0 s6 _ hW.kw hW.ps).mono ?_
    rintro e w7 ⟨rfl, hg, hp⟩
    rw [H7.out] at hp ⊢
    simp only at hp ⊢
    replace hW := hW.call hb0 hg hp
    replace hq := hq.call hg (by omega)
    replace hf := hf.call hg (by omega)
    clear hg hp
    obtain ⟨⟨f0, f1, f2, f3, f4⟩, g0, g1, g2, g3, g4⟩ := hf.k5
    go_wp2_with fail
    clear f0 f1 f2 f3 f4 g0 g1 g2 g3 g4
    replace hW := hW.set hf (by omega) (by omega) (by decide) (by decide) 4 (.string nu)
    replace hq := hq.far (p := ⟨fb, 4, none⟩) (by show ¬ w.heap.size = fb; omega) (.string nu)
    replace hf : Bk (w7.setCell ⟨fb, 4, none⟩ (.string nu)) fb 85 #[.string n2, .string n3, .int .u8 ew, .string n1, .string nu] := hf.set_ 4 (.string nu)
    generalize (w7.setCell ⟨fb, 4, none⟩ (.string nu)) = w8 at *
  case' false =>
    obtain ⟨HNU, HS7⟩ : nu = (⟨#[]⟩ : ByteArray) ∧ s7 = s6 := by have := H7.out; simp at this; exact ⟨this.1.symm, this.2.symm⟩
    clear H7
    obtain ⟨w8, HW8⟩ : ∃ w8, w8 = w6 := ⟨_, rfl⟩
    rw [← HW8, ← HS7] at hW
    rw [← HW8] at hq
    rw [← HW8, ← HNU] at hf
    rw [← HW8]
    have HNU' := Lib.hid HNU
    clear HNU HS7 HW8
    go_wp2_with fail
  all_goals
    refine (pwant_any b s7 Id.sSemi _ hW.ps).mono ?_
    rintro e w9 ⟨rfl, hg, hp⟩
    replace hW := hW.call hb0 hg hp
    replace hq := hq.call hg (by omega)
    replace hf := hf.call hg (by omega)
    clear hg hp
    obtain ⟨⟨f0, f1, f2, f3, f4⟩, g0, g1, g2, g3, g4⟩ := hf.k5
    obtain ⟨⟨q0, q1, q2, q3, q4⟩, r0, r1, r2, r3, r4⟩ := hq.k5
    go_wp2_with fail
    have hqf := ((((hq.set_ 0 (.string n2)).set_ 1 (.string n3)).set_ 2 (.int .u8 ew)).set_ 3 (.string n1)).set_ 4 (.string nu)
    have hWf := ((((hW.set hq (Nat.le_refl _) (by omega) (by decide) (by decide) 0 (.string n2)).set (hq.set_ 0 (.string n2)) (Nat.le_refl _) (by omega) (by decide) (by decide) 1 (.string n3)).set ((hq.set_ 0 (.string n2)).set_ 1 (.string n3)) (Nat.le_refl _) (by omega) (by decide) (by decide) 2 (.int .u8 ew)).set (((hq.set_ 0 (.string n2)).set_ 1 (.string n3)).set_ 2 (.int .u8 ew)) (Nat.le_refl _) (by omega) (by decide) (by decide) 3 (.string n1)).set ((((hq.set_ 0 (.string n2)).set_ 1 (.string n3)).set_ 2 (.int .u8 ew)).set_ 3 (.string n1)) (Nat.le_refl _) (by omega) (by decide) (by decide) 4 (.string nu)
    generalize (((((w9.setCell ⟨w.heap.size, 0, none⟩ (.string n2)).setCell ⟨w.heap.size, 1, none⟩ (.string n3)).setCell ⟨w.heap.size, 2, none⟩ (.int .u8 ew)).setCell ⟨w.heap.size, 3, none⟩ (.string n1)).setCell ⟨w.heap.size, 4, none⟩ (.string nu)) = w10 at *
    obtain ⟨⟨r0, r1, r2, r3, r4⟩, _⟩ := hqf.k5
    refine bodyPost_ret (v := .agg #[.string n2, .string n3, .int .u8 ew, .string n1, .string nu]) ?_ rfl ⟨rfl, hWf.gb, hWf.ps⟩
    rw [res_c rfl]
    go_simp
    try rfl
end Go.Proofs.YtmncppnpppdfkaaGreatDoor
set_option linter.unusedVariables false
set_option linter.unusedSimpArgs false
namespace Go.Proofs.YtmncppnpppdfkaaGreatDoor
open Go.RowKit
namespace Id
def sLeft : ByteArray := ⟨#[123]⟩
def sRight : ByteArray := ⟨#[125]⟩
def withinF {α : Type} (read : St → α × St) : Nat → St → List α → List α × St
  | 0, s, acc => (acc, s)
  | f + 1, s, acc => if s.2 then (acc, s) else if is s sRight then (acc, (s.1.tail, s.2)) else withinF read f (read s).2 (if (read s).2.2 then acc else acc ++ [(read s).1])
def within {α : Type} (read : St → α × St) (s : St) : List α × St := withinF read ((want s sLeft).1.length + 2) (want s sLeft) []
theorem one_good {s : St} {k : Nat} {p : Tk.Tok → Bool} (h : (one s k p).2.2 = false) : s.2 = false ∧ (one s k p).2.1.length + 1 = s.1.length := by
  obtain ⟨l, bad⟩ := s
  cases bad
  · cases l with
    | nil => cases h
    | cons t r =>
      unfold one at h ⊢
      by_cases hc : t.kind = k ∧ p t = true
      · simp only [if_pos hc]; simp
      · simp only [if_neg hc] at h; cases h
  · cases l <;> cases h
theorem name_good {s : St} (h : (name s).2.2 = false) : s.2 = false ∧ (name s).2.1.length + 1 = s.1.length := one_good h
theorem want_good {s : St} {x : ByteArray} (h : (want s x).2 = false) : s.2 = false ∧ (want s x).1.length + 1 = s.1.length := by
  unfold want at h ⊢
  by_cases hi : is s x = true
  · obtain ⟨t, r, rfl⟩ := is_cons hi
    simp only [if_pos hi] at h ⊢
    simp
  · simp only [if_neg hi] at h; cases h
theorem sortsF_good : ∀ (f : Nat) (s : St) (acc : List Srt), s.1.length < f → (sortsF f s acc).2.2 = false → s.2 = false
  | 0, s, acc, hf, h => by omega
  | f + 1, s, acc, hf, h => by
    obtain ⟨l, bad⟩ := s
    cases bad
    · rfl
    · simp [sortsF] at h
theorem sorts_good {s : St} (h : (sorts s).2.2 = false) : s.2 = false := sortsF_good _ _ _ (Nat.lt_succ_self _) h
theorem field_good {s : St} (h : (field s).2.2 = false) : (field s).2.1.length < s.1.length := by
  have h1 := want_good h
  have h2 := sorts_good h1.1
  have h3 := want_good h2
  have h4 := name_good h3.1
  have h5 := sorts_le (want (name s).2 sColon)
  have e : (field s).2 = want (sorts (want (name s).2 sColon)).2 sSemi := rfl
  rw [e]
  omega
theorem step_good {s : St} (h : (step s).2.2 = false) : (step s).2.1.length < s.1.length := by
  have h1 := want_good (s := (num (want (name (want (name (want s wDo)).2 sDot)).2 wAt)).2) h
  have h2 := num_le (want (name (want (name (want s wDo)).2 sDot)).2 wAt)
  have h3 := want_le (name (want (name (want s wDo)).2 sDot)).2 wAt
  have h4 := name_le (want (name (want s wDo)).2 sDot)
  have h5 := want_le (name (want s wDo)).2 sDot
  have h6 := name_le (want s wDo)
  have h7 := want_le s wDo
  have e : (step s).2 = want (num (want (name (want (name (want s wDo)).2 sDot)).2 wAt)).2 sSemi := rfl
  rw [e]
  omega
theorem method_good {s : St} (h : (method s).2.2 = false) : (method s).2.1.length < s.1.length := by
  unfold method at h ⊢
  dsimp only at h ⊢
  have h1 := words_le [wGive, wTake, wNote] s
  generalize words [wGive, wTake, wNote] s = a at *
  have h2 := name_le a.2
  generalize name a.2 = b at *
  have h3 := arg_le b.2
  generalize arg b.2 = c at *
  have h4 := want_le c.2 sArrow
  generalize want c.2 sArrow = s4 at *
  have h5 := words_le [wInt, wNone] s4
  generalize words [wInt, wNone] s4 = d at *
  have h6 := take_le d.2 wUndo
  generalize take d.2 wUndo = t at *
  have h7 := name_le t.2
  have h8 := want_good h
  refine Nat.lt_of_lt_of_le (Nat.lt_of_succ_le (Nat.le_of_eq h8.2)) ?_
  split
  · omega
  · simp only
    omega
theorem withinF_le {α : Type} {read : St → α × St} (hr : ∀ s, (read s).2.1.length ≤ s.1.length) : ∀ (f : Nat) (s : St) (acc : List α), (withinF read f s acc).2.1.length ≤ s.1.length
  | 0, s, acc => Nat.le_refl _
  | f + 1, s, acc => by
    unfold withinF
    split
    · exact Nat.le_refl _
    · split
      · simp
      · exact Nat.le_trans (withinF_le hr f _ _) (hr s)
theorem within_le {α : Type} {read : St → α × St} (hr : ∀ s, (read s).2.1.length ≤ s.1.length) (s : St) : (within read s).2.1.length ≤ s.1.length := Nat.le_trans (withinF_le hr _ _ _) (want_le _ _)
theorem Srt.e_kp {base b : Nat} {T : List TypeId} {w w' : World} (h : Kp base T w w') (hb : base ≤ b) (ht : 60 ∈ T) {v : Value} {l : List Srt} (hs : SortsR w (some b) v l) : SortsR w' (some b) v l := ERow.kp hs h hb ht (fun _ _ h => h)
theorem FldE.kp {base b : Nat} {T : List TypeId} {w w' : World} (h : Kp base T w w') (hb : base ≤ b) (ht : 60 ∈ T) (cs : List Value) (x : Fld) (he : FldE (some b) w cs x) : FldE (some b) w' cs x := by
  obtain ⟨u, e, hs⟩ := he
  exact ⟨u, e, Srt.e_kp h hb ht hs⟩
theorem MthE.kp {w w' : World} (cs : List Value) (x : Mth) (he : MthE w cs x) : MthE w' cs x := he
theorem StpE.kp {w w' : World} (cs : List Value) (x : Stp) (he : StpE w cs x) : StpE w' cs x := he
end Id
theorem Id.info_field : (Tryz.prog.info? 68).map (fun i => (i.zero, i.size, i.bytes)) = some (some (.agg #[.string ByteArray.empty, .slice none 0 0]), 2, 40) := by kernel_rfl
/-- A round's head. -/
structure Id.FieldsAt (w : World) (b : Nat) (R : List Id.Fld × Id.St) (n : Nat) (v : Value) (wr : World) (s : Id.St) (acc : List Id.Fld) : Prop where
  fu : s.2 = false → s.1.length + 2 ≤ n
  fo : 1 ≤ n
  ln : acc.length + s.1.length ≤ 1000000
  pw : Id.PW w wr b s
  row : ERow wr (some w.heap.size) 68 2 (Id.FldE (some w.heap.size)) v acc
  out : Id.withinF Id.field n s acc = R
set_option maxRecDepth 100000 in
set_option maxHeartbeats 4000000 in
theorem pwithin_field (b : Nat) (hb0 : 0 < b) (s0 : Id.St) (hsz : s0.1.length ≤ 1000000) (w : World) (hk : Tk.KW w) (h : Id.Ps w b s0) :
    Calls Tryz.prog 112 #[.pointer (some ⟨b, 0, none⟩), .func (.func 113) #[.pointer (some ⟨b, 0, none⟩)] #[]] w fun e w' => ∃ v, e = .returned v ∧ w.grownBy w' (some b) ∧ Id.Ps w' b (Id.within Id.field s0).2 ∧ ERow w' (some w.heap.size) 68 2 (Id.FldE (some w.heap.size)) v (Id.within Id.field s0).1 := by
  obtain ⟨R, HR⟩ : ∃ R, Hid (Id.within Id.field s0 = R) := ⟨_, Lib.hid rfl⟩
  rw [HR.out]
  have hbw := h.lt
  have hsz1 := Id.want_le s0 Id.sLeft
  obtain ⟨s1, H1⟩ : ∃ R, Hid (Id.want s0 Id.sLeft = R) := ⟨_, Lib.hid rfl⟩
  rw [H1.out] at hsz1
  have hW := Id.PW.start h hk
  clear h hk
  go_enter Tryz.func112, Tryz.ntmps112
  go_wp2_with fail
  refine (pwant_any b s0 Id.sLeft _ hW.ps).mono ?_
  rintro e w1 ⟨rfl, hg, hp⟩
  rw [H1.out] at hp
  replace hW := hW.call hb0 hg hp
  have HA0 := Lib.hid (show Id.FieldsAt w b R (s1.1.length + 2) (.slice none 0 0) w1 s1 [] from ⟨fun _ => Nat.le_refl _, by omega, by simp; omega, hW, ERow.nil _ _ _ _ _, by rw [← HR.out]; unfold Id.within; rw [H1.out]⟩)
  clear hg hp hW
  go_wp2_with fail
  go_loopg [5] (s1.1.length + 2) (fun n l wr => ∃ (s : Id.St) (acc : List Id.Fld) (lv : Value), lv = l ∧ Hid (Id.FieldsAt w b R n lv wr s acc))
  case atStart => exact ⟨s1, [], _, rfl, HA0⟩
  case round =>
    obtain ⟨s, acc, lv, rfl, HA⟩ := hrel
    obtain ⟨f, rfl⟩ : ∃ f, gk = f + 1 := ⟨gk - 1, by have := HA.out.fo; omega⟩
    obtain ⟨l, bad⟩ := s
    obtain ⟨A, c, hk, hr, hc, hc2, hne⟩ := HA.out.pw.ps.lies
    obtain ⟨⟨c0, c1⟩, f0, f1⟩ := hk.k2
    have hln := HA.out.ln
    have hfu := HA.out.fu
    have hzr := HA.out.pw.gb.size
    simp only at hln hfu
    clear hr hne hk hc c0 f0 f1
    cases bad
    case true =>
      have HE : Hid (R = (acc, (l, true))) := Lib.hid (by rw [← HA.out.out]; rfl)
      clear hfu
      go_wp2_with fail
      go_ret
      exact ⟨_, rfl, HA.out.pw.gb, by rw [HE.out]; exact HA.out.pw.ps, by rw [HE.out]; exact HA.out.row⟩
    replace hfu := hfu rfl
    go_wp2_with fail
    refine (ptake_any b (l, false) Id.sRight _ HA.out.pw.ps).mono ?_
    rintro e w2 ⟨rfl, hg2, hp2⟩
    cases hi : Id.is (l, false) Id.sRight
    case true =>
      have HT : Hid (Id.take (l, false) Id.sRight = (true, (l.tail, false))) := Lib.hid (by unfold Id.take; rw [hi]; rfl)
      rw [HT.out] at hp2 ⊢
      simp only at hp2 ⊢
      have HE : Hid (R = (acc, (l.tail, false))) := Lib.hid (by rw [← HA.out.out]; simp [Id.withinF, hi])
      have HW := Lib.hid (HA.out.pw.call hb0 hg2 hp2)
      have HRW : Hid (ERow w2 (some w.heap.size) 68 2 (Id.FldE (some w.heap.size)) lv acc) := Lib.hid (HA.out.row.kp (Kp.grown (T := [68, 60]) hg2 hbw) (Nat.le_refl _) (by simp) (Id.FldE.kp (Kp.grown (T := [68, 60]) hg2 hbw) (Nat.le_refl _) (by simp)))
      clear hi hg2 hp2 c1
      go_wp2_with fail
      go_ret
      exact ⟨_, rfl, HW.out.gb, by rw [HE.out]; exact HW.out.ps, by rw [HE.out]; exact HRW.out⟩
    have HT : Hid (Id.take (l, false) Id.sRight = (false, (l, false))) := Lib.hid (by unfold Id.take; rw [hi]; rfl)
    rw [HT.out] at hp2 ⊢
    simp only at hp2 ⊢
    have HW := Lib.hid (HA.out.pw.call hb0 hg2 hp2)
    have HRW : Hid (ERow w2 (some w.heap.size) 68 2 (Id.FldE (some w.heap.size)) lv acc) := Lib.hid (HA.out.row.kp (Kp.grown (T := [68, 60]) hg2 hbw) (Nat.le_refl _) (by simp) (Id.FldE.kp (Kp.grown (T := [68, 60]) hg2 hbw) (Nat.le_refl _) (by simp)))
    have HI := Lib.hid hi
    clear hi hg2 hp2 c1
    go_wp2_with fail
    have hrl := Id.field_le (l, false)
    have hrg := @Id.field_good (l, false)
    obtain ⟨⟨x, ⟨l3, bad3⟩⟩, H3⟩ : ∃ R, Hid (Id.field (l, false) = R) := ⟨_, Lib.hid rfl⟩
    rw [H3.out] at hrl hrg
    simp only at hrl hrg
    refine (pfield_any b hb0 (l, false) (by simp only; omega) _ HW.out.kw HW.out.ps).mono ?_
    rintro e w3 ⟨v3, rfl, hg3, hp3, hr3⟩
    rw [H3.out] at hp3 hr3 ⊢
    simp only at hp3 hr3 ⊢
    obtain ⟨A5, n5, c5, rfl⟩ := ERow.is hr3
    have hw2z := HW.out.gb.size
    have HS3 : Hid (Id.SortsR w3 (some w.heap.size) (.slice A5 n5 c5) x.type) := Lib.hid (ERow.mono hr3 (fun _ _ h => h.weak (fun b' e => ⟨_, rfl, by injection e with e; omega⟩)) (fun _ _ h => h))
    clear hr3
    have hg23 := HW.out.gb.size
    have HW3 := Lib.hid (HW.out.call hb0 hg3 hp3)
    have HRW3 : Hid (ERow w3 (some w.heap.size) 68 2 (Id.FldE (some w.heap.size)) lv acc) := Lib.hid (HRW.out.kp (Kp.grown (T := [68, 60]) hg3 hbw) (Nat.le_refl _) (by simp) (Id.FldE.kp (Kp.grown (T := [68, 60]) hg3 hbw) (Nat.le_refl _) (by simp)))
    clear hg3 hp3 HRW
    have hz3 := HW3.out.gb.size
    have hbw3 := HW3.out.ps.lt
    have hbn3 : ¬ b = w3.heap.size := by omega
    obtain ⟨A3, c3, hk3, _⟩ := HW3.out.ps.lies
    obtain ⟨⟨c0, c1⟩, f0, f1⟩ := hk3.k2
    clear hk3 c0 f0 f1
    cases bad3
    case true =>
      have HE : Hid (Id.withinF Id.field f (l3, true) acc = R) := Lib.hid (by rw [← HA.out.out]; simp [Id.withinF, HI.out, H3.out])
      clear hrg
      go_wp2_with fail
      go_roundg f
      case rel => exact ⟨_, _, _, rfl, Lib.hid ⟨(fun e => by cases e), by omega, by simp only; omega, HW3.out.alloc _, HRW3.out.below ((Below.refl _ _).alloc (Nat.le_refl _) _) (Id.FldE.kp (Kp.below (base := w.heap.size) (T := [60]) ((Below.refl _ _).alloc (Nat.le_refl _) _)) (Nat.le_refl _) (by simp)), HE.out⟩⟩
      case measure => omega
    replace hrg := hrg rfl
    have HE : Hid (Id.withinF Id.field f (l3, false) (acc ++ [x]) = R) := Lib.hid (by rw [← HA.out.out]; simp [Id.withinF, HI.out, H3.out])
    have HRW4 := Lib.hid (HRW3.out.below ((Below.refl _ _).alloc (Nat.le_refl _) (.cells #[.string x.name, .slice A5 n5 c5] 68)) (Id.FldE.kp (Kp.below (base := w.heap.size) (T := [60]) ((Below.refl _ _).alloc (Nat.le_refl _) _)) (Nat.le_refl _) (by simp)))
    have hz4 := World.size_alloc w3 (.cells #[.string x.name, .slice A5 n5 c5] 68)
    have HZ4 := Lib.hid hz4
    clear hz4
    go_wp2_with (at_builtin; go_must (refine wpList_append_el rfl _ _ _ rfl w.heap.size 68 _ 2 40 Tryz.underlying64 Id.info_field rfl (by decide) (Id.FldE (some w.heap.size)) lv acc rfl HRW4.out [.string x.name, .slice A5 n5 c5] rfl _ rfl (by rw [World.size_alloc]) (by simp [Value.oneCell']) (by simp only [maxLen]; omega) (by omega) (by rw [World.size_alloc]; omega) ?_); intro v' w4 hrow2 hb2 ho2; have HROW := Lib.hid hrow2; have HB2 := Lib.hid hb2; have HO2 := Lib.hid ho2; clear hrow2 hb2 ho2)
    go_roundg f
    case rel =>
      have hPS := (HW3.out.alloc (.cells #[.string x.name, .slice A5 n5 c5] 68))
      exact ⟨_, _, v', rfl, Lib.hid ⟨fun _ => by simp only; omega, by omega, by simp; omega, ⟨hPS.ps.only HO2.out (by decide) (by decide), ⟨Nat.lt_of_lt_of_le hPS.kw.1 HB2.out.size, fun j hj => (HB2.out.cell (p := ⟨0, 0 + j, none⟩) (by show 0 < w.heap.size; omega)).trans (hPS.kw.2 j hj)⟩, gb_join hPS.gb HB2.out⟩, HROW.out x (Id.FldE.kp (HO2.out.kp w.heap.size (T := [60]) (by decide)) (Nat.le_refl _) (by simp)) ⟨_, rfl, Id.Srt.e_kp ((Kp.below ((Below.refl _ _).alloc (Nat.le_refl _) _)).trans (HO2.out.kp w.heap.size (T := [60]) (by decide))) (Nat.le_refl _) (by simp) HS3.out⟩, HE.out⟩⟩
    case measure => omega
theorem Id.info_method : (Tryz.prog.info? 85).map (fun i => (i.zero, i.size, i.bytes)) = some (some (.agg #[.string ByteArray.empty, .string ByteArray.empty, .int .u8 0, .string ByteArray.empty, .string ByteArray.empty]), 5, 72) := by kernel_rfl
/-- A round's head. -/
structure Id.MethodsAt (w : World) (b : Nat) (R : List Id.Mth × Id.St) (n : Nat) (v : Value) (wr : World) (s : Id.St) (acc : List Id.Mth) : Prop where
  fu : s.2 = false → s.1.length + 2 ≤ n
  fo : 1 ≤ n
  ln : acc.length + s.1.length ≤ 1000000
  pw : Id.PW w wr b s
  row : ERow wr (some w.heap.size) 85 5 Id.MthE v acc
  out : Id.withinF Id.method n s acc = R
set_option maxRecDepth 100000 in
set_option maxHeartbeats 4000000 in
theorem pwithin_method (b : Nat) (hb0 : 0 < b) (s0 : Id.St) (hsz : s0.1.length ≤ 1000000) (w : World) (hk : Tk.KW w) (h : Id.Ps w b s0) :
    Calls Tryz.prog 114 #[.pointer (some ⟨b, 0, none⟩), .func (.func 115) #[.pointer (some ⟨b, 0, none⟩)] #[]] w fun e w' => ∃ v, e = .returned v ∧ w.grownBy w' (some b) ∧ Id.Ps w' b (Id.within Id.method s0).2 ∧ ERow w' (some w.heap.size) 85 5 Id.MthE v (Id.within Id.method s0).1 := by
  obtain ⟨R, HR⟩ : ∃ R, Hid (Id.within Id.method s0 = R) := ⟨_, Lib.hid rfl⟩
  rw [HR.out]
  have hbw := h.lt
  have hsz1 := Id.want_le s0 Id.sLeft
  obtain ⟨s1, H1⟩ : ∃ R, Hid (Id.want s0 Id.sLeft = R) := ⟨_, Lib.hid rfl⟩
  rw [H1.out] at hsz1
  have hW := Id.PW.start h hk
  clear h hk
  go_enter Tryz.func114, Tryz.ntmps114
  go_wp2_with fail
  refine (pwant_any b s0 Id.sLeft _ hW.ps).mono ?_
  rintro e w1 ⟨rfl, hg, hp⟩
  rw [H1.out] at hp
  replace hW := hW.call hb0 hg hp
  have HA0 := Lib.hid (show Id.MethodsAt w b R (s1.1.length + 2) (.slice none 0 0) w1 s1 [] from ⟨fun _ => Nat.le_refl _, by omega, by simp; omega, hW, ERow.nil _ _ _ _ _, by rw [← HR.out]; unfold Id.within; rw [H1.out]⟩)
  clear hg hp hW
  go_wp2_with fail
  go_loopg [5] (s1.1.length + 2) (fun n l wr => ∃ (s : Id.St) (acc : List Id.Mth) (lv : Value), lv = l ∧ Hid (Id.MethodsAt w b R n lv wr s acc))
  case atStart => exact ⟨s1, [], _, rfl, HA0⟩
  case round =>
    obtain ⟨s, acc, lv, rfl, HA⟩ := hrel
    obtain ⟨f, rfl⟩ : ∃ f, gk = f + 1 := ⟨gk - 1, by have := HA.out.fo; omega⟩
    obtain ⟨l, bad⟩ := s
    obtain ⟨A, c, hk, hr, hc, hc2, hne⟩ := HA.out.pw.ps.lies
    obtain ⟨⟨c0, c1⟩, f0, f1⟩ := hk.k2
    have hln := HA.out.ln
    have hfu := HA.out.fu
    have hzr := HA.out.pw.gb.size
    simp only at hln hfu
    clear hr hne hk hc c0 f0 f1
    cases bad
    case true =>
      have HE : Hid (R = (acc, (l, true))) := Lib.hid (by rw [← HA.out.out]; rfl)
      clear hfu
      go_wp2_with fail
      go_ret
      exact ⟨_, rfl, HA.out.pw.gb, by rw [HE.out]; exact HA.out.pw.ps, by rw [HE.out]; exact HA.out.row⟩
    replace hfu := hfu rfl
    go_wp2_with fail
    refine (ptake_any b (l, false) Id.sRight _ HA.out.pw.ps).mono ?_
    rintro e w2 ⟨rfl, hg2, hp2⟩
    cases hi : Id.is (l, false) Id.sRight
    case true =>
      have HT : Hid (Id.take (l, false) Id.sRight = (true, (l.tail, false))) := Lib.hid (by unfold Id.take; rw [hi]; rfl)
      rw [HT.out] at hp2 ⊢
      simp only at hp2 ⊢
      have HE : Hid (R = (acc, (l.tail, false))) := Lib.hid (by rw [← HA.out.out]; simp [Id.withinF, hi])
      have HW := Lib.hid (HA.out.pw.call hb0 hg2 hp2)
      have HRW : Hid (ERow w2 (some w.heap.size) 85 5 Id.MthE lv acc) := Lib.hid (HA.out.row.kp (Kp.grown (T := [85, 60]) hg2 hbw) (Nat.le_refl _) (by simp) Id.MthE.kp)
      clear hi hg2 hp2 c1
      go_wp2_with fail
      go_ret
      exact ⟨_, rfl, HW.out.gb, by rw [HE.out]; exact HW.out.ps, by rw [HE.out]; exact HRW.out⟩
    have HT : Hid (Id.take (l, false) Id.sRight = (false, (l, false))) := Lib.hid (by unfold Id.take; rw [hi]; rfl)
    rw [HT.out] at hp2 ⊢
    simp only at hp2 ⊢
    have HW := Lib.hid (HA.out.pw.call hb0 hg2 hp2)
    have HRW : Hid (ERow w2 (some w.heap.size) 85 5 Id.MthE lv acc) := Lib.hid (HA.out.row.kp (Kp.grown (T := [85, 60]) hg2 hbw) (Nat.le_refl _) (by simp) Id.MthE.kp)
    have HI := Lib.hid hi
    clear hi hg2 hp2 c1
    go_wp2_with fail
    have hrl := Id.method_le (l, false)
    have hrg := @Id.method_good (l, false)
    obtain ⟨⟨x, ⟨l3, bad3⟩⟩, H3⟩ : ∃ R, Hid (Id.method (l, false) = R) := ⟨_, Lib.hid rfl⟩
    rw [H3.out] at hrl hrg
    simp only at hrl hrg
    refine (pmethod_any b hb0 (l, false) _ HW.out.kw HW.out.ps).mono ?_
    rintro e w3 ⟨rfl, hg3, hp3⟩
    rw [H3.out] at hp3 ⊢
    simp only at hp3 ⊢
    have hg23 := HW.out.gb.size
    have HW3 := Lib.hid (HW.out.call hb0 hg3 hp3)
    have HRW3 : Hid (ERow w3 (some w.heap.size) 85 5 Id.MthE lv acc) := Lib.hid (HRW.out.kp (Kp.grown (T := [85, 60]) hg3 hbw) (Nat.le_refl _) (by simp) Id.MthE.kp)
    clear hg3 hp3 HRW
    have hz3 := HW3.out.gb.size
    have hbw3 := HW3.out.ps.lt
    have hbn3 : ¬ b = w3.heap.size := by omega
    obtain ⟨A3, c3, hk3, _⟩ := HW3.out.ps.lies
    obtain ⟨⟨c0, c1⟩, f0, f1⟩ := hk3.k2
    clear hk3 c0 f0 f1
    cases bad3
    case true =>
      have HE : Hid (Id.withinF Id.method f (l3, true) acc = R) := Lib.hid (by rw [← HA.out.out]; simp [Id.withinF, HI.out, H3.out])
      clear hrg
      go_wp2_with fail
      go_roundg f
      case rel => exact ⟨_, _, _, rfl, Lib.hid ⟨(fun e => by cases e), by omega, by simp only; omega, HW3.out.alloc _, HRW3.out.below ((Below.refl _ _).alloc (Nat.le_refl _) _) Id.MthE.kp, HE.out⟩⟩
      case measure => omega
    replace hrg := hrg rfl
    have HE : Hid (Id.withinF Id.method f (l3, false) (acc ++ [x]) = R) := Lib.hid (by rw [← HA.out.out]; simp [Id.withinF, HI.out, H3.out])
    have HRW4 := Lib.hid (HRW3.out.below ((Below.refl _ _).alloc (Nat.le_refl _) (.cells #[.string x.name, .string x.arg, .int .u8 x.result, .string x.effect, .string x.undo] 85)) Id.MthE.kp)
    have hz4 := World.size_alloc w3 (.cells #[.string x.name, .string x.arg, .int .u8 x.result, .string x.effect, .string x.undo] 85)
    have HZ4 := Lib.hid hz4
    clear hz4
    go_wp2_with (at_builtin; go_must (refine wpList_append_el rfl _ _ _ rfl w.heap.size 85 _ 5 72 Tryz.underlying75 Id.info_method rfl (by decide) Id.MthE lv acc rfl HRW4.out [.string x.name, .string x.arg, .int .u8 x.result, .string x.effect, .string x.undo] rfl _ rfl (by rw [World.size_alloc]) (by simp [Value.oneCell']) (by simp only [maxLen]; omega) (by omega) (by rw [World.size_alloc]; omega) ?_); intro v' w4 hrow2 hb2 ho2; have HROW := Lib.hid hrow2; have HB2 := Lib.hid hb2; have HO2 := Lib.hid ho2; clear hrow2 hb2 ho2)
    go_roundg f
    case rel =>
      have hPS := (HW3.out.alloc (.cells #[.string x.name, .string x.arg, .int .u8 x.result, .string x.effect, .string x.undo] 85))
      exact ⟨_, _, v', rfl, Lib.hid ⟨fun _ => by simp only; omega, by omega, by simp; omega, ⟨hPS.ps.only HO2.out (by decide) (by decide), ⟨Nat.lt_of_lt_of_le hPS.kw.1 HB2.out.size, fun j hj => (HB2.out.cell (p := ⟨0, 0 + j, none⟩) (by show 0 < w.heap.size; omega)).trans (hPS.kw.2 j hj)⟩, gb_join hPS.gb HB2.out⟩, HROW.out x Id.MthE.kp rfl, HE.out⟩⟩
    case measure => omega
theorem Id.info_step : (Tryz.prog.info? 88).map (fun i => (i.zero, i.size, i.bytes)) = some (some (.agg #[.string ByteArray.empty, .string ByteArray.empty, .int .i64 0]), 3, 40) := by kernel_rfl
/-- A round's head. -/
structure Id.StepsAt (w : World) (b : Nat) (R : List Id.Stp × Id.St) (n : Nat) (v : Value) (wr : World) (s : Id.St) (acc : List Id.Stp) : Prop where
  fu : s.2 = false → s.1.length + 2 ≤ n
  fo : 1 ≤ n
  ln : acc.length + s.1.length ≤ 1000000
  pw : Id.PW w wr b s
  row : ERow wr (some w.heap.size) 88 3 Id.StpE v acc
  out : Id.withinF Id.step n s acc = R
set_option maxRecDepth 100000 in
set_option maxHeartbeats 4000000 in
theorem pwithin_step (b : Nat) (hb0 : 0 < b) (s0 : Id.St) (hsz : s0.1.length ≤ 1000000) (w : World) (hk : Tk.KW w) (h : Id.Ps w b s0) :
    Calls Tryz.prog 117 #[.pointer (some ⟨b, 0, none⟩), .func (.func 118) #[.pointer (some ⟨b, 0, none⟩)] #[]] w fun e w' => ∃ v, e = .returned v ∧ w.grownBy w' (some b) ∧ Id.Ps w' b (Id.within Id.step s0).2 ∧ ERow w' (some w.heap.size) 88 3 Id.StpE v (Id.within Id.step s0).1 := by
  obtain ⟨R, HR⟩ : ∃ R, Hid (Id.within Id.step s0 = R) := ⟨_, Lib.hid rfl⟩
  rw [HR.out]
  have hbw := h.lt
  have hsz1 := Id.want_le s0 Id.sLeft
  obtain ⟨s1, H1⟩ : ∃ R, Hid (Id.want s0 Id.sLeft = R) := ⟨_, Lib.hid rfl⟩
  rw [H1.out] at hsz1
  have hW := Id.PW.start h hk
  clear h hk
  go_enter Tryz.func117, Tryz.ntmps117
  go_wp2_with fail
  refine (pwant_any b s0 Id.sLeft _ hW.ps).mono ?_
  rintro e w1 ⟨rfl, hg, hp⟩
  rw [H1.out] at hp
  replace hW := hW.call hb0 hg hp
  have HA0 := Lib.hid (show Id.StepsAt w b R (s1.1.length + 2) (.slice none 0 0) w1 s1 [] from ⟨fun _ => Nat.le_refl _, by omega, by simp; omega, hW, ERow.nil _ _ _ _ _, by rw [← HR.out]; unfold Id.within; rw [H1.out]⟩)
  clear hg hp hW
  go_wp2_with fail
  go_loopg [5] (s1.1.length + 2) (fun n l wr => ∃ (s : Id.St) (acc : List Id.Stp) (lv : Value), lv = l ∧ Hid (Id.StepsAt w b R n lv wr s acc))
  case atStart => exact ⟨s1, [], _, rfl, HA0⟩
  case round =>
    obtain ⟨s, acc, lv, rfl, HA⟩ := hrel
    obtain ⟨f, rfl⟩ : ∃ f, gk = f + 1 := ⟨gk - 1, by have := HA.out.fo; omega⟩
    obtain ⟨l, bad⟩ := s
    obtain ⟨A, c, hk, hr, hc, hc2, hne⟩ := HA.out.pw.ps.lies
    obtain ⟨⟨c0, c1⟩, f0, f1⟩ := hk.k2
    have hln := HA.out.ln
    have hfu := HA.out.fu
    have hzr := HA.out.pw.gb.size
    simp only at hln hfu
    clear hr hne hk hc c0 f0 f1
    cases bad
    case true =>
      have HE : Hid (R = (acc, (l, true))) := Lib.hid (by rw [← HA.out.out]; rfl)
      clear hfu
      go_wp2_with fail
      go_ret
      exact ⟨_, rfl, HA.out.pw.gb, by rw [HE.out]; exact HA.out.pw.ps, by rw [HE.out]; exact HA.out.row⟩
    replace hfu := hfu rfl
    go_wp2_with fail
    refine (ptake_any b (l, false) Id.sRight _ HA.out.pw.ps).mono ?_
    rintro e w2 ⟨rfl, hg2, hp2⟩
    cases hi : Id.is (l, false) Id.sRight
    case true =>
      have HT : Hid (Id.take (l, false) Id.sRight = (true, (l.tail, false))) := Lib.hid (by unfold Id.take; rw [hi]; rfl)
      rw [HT.out] at hp2 ⊢
      simp only at hp2 ⊢
      have HE : Hid (R = (acc, (l.tail, false))) := Lib.hid (by rw [← HA.out.out]; simp [Id.withinF, hi])
      have HW := Lib.hid (HA.out.pw.call hb0 hg2 hp2)
      have HRW : Hid (ERow w2 (some w.heap.size) 88 3 Id.StpE lv acc) := Lib.hid (HA.out.row.kp (Kp.grown (T := [88, 60]) hg2 hbw) (Nat.le_refl _) (by simp) Id.StpE.kp)
      clear hi hg2 hp2 c1
      go_wp2_with fail
      go_ret
      exact ⟨_, rfl, HW.out.gb, by rw [HE.out]; exact HW.out.ps, by rw [HE.out]; exact HRW.out⟩
    have HT : Hid (Id.take (l, false) Id.sRight = (false, (l, false))) := Lib.hid (by unfold Id.take; rw [hi]; rfl)
    rw [HT.out] at hp2 ⊢
    simp only at hp2 ⊢
    have HW := Lib.hid (HA.out.pw.call hb0 hg2 hp2)
    have HRW : Hid (ERow w2 (some w.heap.size) 88 3 Id.StpE lv acc) := Lib.hid (HA.out.row.kp (Kp.grown (T := [88, 60]) hg2 hbw) (Nat.le_refl _) (by simp) Id.StpE.kp)
    have HI := Lib.hid hi
    clear hi hg2 hp2 c1
    go_wp2_with fail
    have hrl := Id.step_le (l, false)
    have hrg := @Id.step_good (l, false)
    obtain ⟨⟨x, ⟨l3, bad3⟩⟩, H3⟩ : ∃ R, Hid (Id.step (l, false) = R) := ⟨_, Lib.hid rfl⟩
    rw [H3.out] at hrl hrg
    simp only at hrl hrg
    refine (pstep_any b hb0 (l, false) _ HW.out.kw HW.out.ps).mono ?_
    rintro e w3 ⟨rfl, hg3, hp3⟩
    rw [H3.out] at hp3 ⊢
    simp only at hp3 ⊢
    have hg23 := HW.out.gb.size
    have HW3 := Lib.hid (HW.out.call hb0 hg3 hp3)
    have HRW3 : Hid (ERow w3 (some w.heap.size) 88 3 Id.StpE lv acc) := Lib.hid (HRW.out.kp (Kp.grown (T := [88, 60]) hg3 hbw) (Nat.le_refl _) (by simp) Id.StpE.kp)
    clear hg3 hp3 HRW
    have hz3 := HW3.out.gb.size
    have hbw3 := HW3.out.ps.lt
    have hbn3 : ¬ b = w3.heap.size := by omega
    obtain ⟨A3, c3, hk3, _⟩ := HW3.out.ps.lies
    obtain ⟨⟨c0, c1⟩, f0, f1⟩ := hk3.k2
    clear hk3 c0 f0 f1
    cases bad3
    case true =>
      have HE : Hid (Id.withinF Id.step f (l3, true) acc = R) := Lib.hid (by rw [← HA.out.out]; simp [Id.withinF, HI.out, H3.out])
      clear hrg
      go_wp2_with fail
      go_roundg f
      case rel => exact ⟨_, _, _, rfl, Lib.hid ⟨(fun e => by cases e), by omega, by simp only; omega, HW3.out.alloc _, HRW3.out.below ((Below.refl _ _).alloc (Nat.le_refl _) _) Id.StpE.kp, HE.out⟩⟩
      case measure => omega
    replace hrg := hrg rfl
    have HE : Hid (Id.withinF Id.step f (l3, false) (acc ++ [x]) = R) := Lib.hid (by rw [← HA.out.out]; simp [Id.withinF, HI.out, H3.out])
    have HRW4 := Lib.hid (HRW3.out.below ((Below.refl _ _).alloc (Nat.le_refl _) (.cells #[.string x.service, .string x.method, .int .i64 x.at_] 88)) Id.StpE.kp)
    have hz4 := World.size_alloc w3 (.cells #[.string x.service, .string x.method, .int .i64 x.at_] 88)
    have HZ4 := Lib.hid hz4
    clear hz4
    go_wp2_with (at_builtin; go_must (refine wpList_append_el rfl _ _ _ rfl w.heap.size 88 _ 3 40 Tryz.underlying79 Id.info_step rfl (by decide) Id.StpE lv acc rfl HRW4.out [.string x.service, .string x.method, .int .i64 x.at_] rfl _ rfl (by rw [World.size_alloc]) (by simp [Value.oneCell']) (by simp only [maxLen]; omega) (by omega) (by rw [World.size_alloc]; omega) ?_); intro v' w4 hrow2 hb2 ho2; have HROW := Lib.hid hrow2; have HB2 := Lib.hid hb2; have HO2 := Lib.hid ho2; clear hrow2 hb2 ho2)
    go_roundg f
    case rel =>
      have hPS := (HW3.out.alloc (.cells #[.string x.service, .string x.method, .int .i64 x.at_] 88))
      exact ⟨_, _, v', rfl, Lib.hid ⟨fun _ => by simp only; omega, by omega, by simp; omega, ⟨hPS.ps.only HO2.out (by decide) (by decide), ⟨Nat.lt_of_lt_of_le hPS.kw.1 HB2.out.size, fun j hj => (HB2.out.cell (p := ⟨0, 0 + j, none⟩) (by show 0 < w.heap.size; omega)).trans (hPS.kw.2 j hj)⟩, gb_join hPS.gb HB2.out⟩, HROW.out x Id.StpE.kp rfl, HE.out⟩⟩
    case measure => omega
end Go.Proofs.YtmncppnpppdfkaaGreatDoor
set_option linter.unusedVariables false
set_option linter.unusedSimpArgs false
namespace Go.Proofs.YtmncppnpppdfkaaGreatDoor
open Go.RowKit
namespace Id
structure Rec where
  name : ByteArray
  choice : Bool
  fields : List Fld
structure Svc where
  name : ByteArray
  methods : List Mth
structure Sag where
  name : ByteArray
  arg : ByteArray
  steps : List Stp
structure Sch where
  name : ByteArray
  records : List Rec
  services : List Svc
  sagas : List Sag
def RecE (B : Option Nat) (w : World) (cs : List Value) (x : Rec) : Prop := ∃ u, cs = [.string x.name, .bool x.choice, u] ∧ FldsR w B u x.fields
def SvcE (B : Option Nat) (w : World) (cs : List Value) (x : Svc) : Prop := ∃ u, cs = [.string x.name, u] ∧ ERow w B 85 5 MthE u x.methods
def SagE (B : Option Nat) (w : World) (cs : List Value) (x : Sag) : Prop := ∃ u, cs = [.string x.name, .string x.arg, u] ∧ ERow w B 88 3 StpE u x.steps
def RecsR (w : World) (B : Option Nat) (v : Value) (l : List Rec) : Prop := ERow w B 66 3 (RecE B) v l
def SvcsR (w : World) (B : Option Nat) (v : Value) (l : List Svc) : Prop := ERow w B 77 2 (SvcE B) v l
def SagsR (w : World) (B : Option Nat) (v : Value) (l : List Sag) : Prop := ERow w B 81 3 (SagE B) v l
def schT : List TypeId := [66, 68, 60, 77, 85, 81, 88]
def wModule : ByteArray := ⟨#[109, 111, 100, 117, 108, 101]⟩
def wRecord : ByteArray := ⟨#[114, 101, 99, 111, 114, 100]⟩
def wChoice : ByteArray := ⟨#[99, 104, 111, 105, 99, 101]⟩
def wService : ByteArray := ⟨#[115, 101, 114, 118, 105, 99, 101]⟩
def wSaga : ByteArray := ⟨#[115, 97, 103, 97]⟩
def decls : List ByteArray := [wRecord, wChoice, wService, wSaga]
def record (c : Bool) (s : St) : Rec × St := (⟨(name s).1, c, (within field (name s).2).1⟩, (within field (name s).2).2)
def service (s : St) : Svc × St := (⟨(name s).1, (within method (name s).2).1⟩, (within method (name s).2).2)
def saga (s : St) : Sag × St := (⟨(name s).1, (arg (name s).2).1, (within step (arg (name s).2).2).1⟩, (within step (arg (name s).2).2).2)
def schemaF : Nat → St → Sch → Sch × St
  | 0, s, x => (x, s)
  | f + 1, s, x => if s.2 = true ∨ s.1 = [] then (x, s) else
    if (words decls s).1.toList = [114, 101, 99, 111, 114, 100] then schemaF f (record false (words decls s).2).2 { x with records := x.records ++ [(record false (words decls s).2).1] } else
    if (words decls s).1.toList = [99, 104, 111, 105, 99, 101] then schemaF f (record true (words decls s).2).2 { x with records := x.records ++ [(record true (words decls s).2).1] } else
    if (words decls s).1.toList = [115, 101, 114, 118, 105, 99, 101] then schemaF f (service (words decls s).2).2 { x with services := x.services ++ [(service (words decls s).2).1] } else
    if (words decls s).1.toList = [115, 97, 103, 97] then schemaF f (saga (words decls s).2).2 { x with sagas := x.sagas ++ [(saga (words decls s).2).1] } else
    schemaF f (words decls s).2 x
def schema (s : St) : Sch × St :=
  let a := name (want s wModule)
  let s1 := want a.2 sSemi
  schemaF (s1.1.length + 2) s1 ⟨a.1, [], [], []⟩
theorem record_le (c : Bool) (s : St) : (record c s).2.1.length ≤ s.1.length := Nat.le_trans (within_le field_le _) (name_le s)
theorem service_le (s : St) : (service s).2.1.length ≤ s.1.length := Nat.le_trans (within_le method_le _) (name_le s)
theorem saga_le (s : St) : (saga s).2.1.length ≤ s.1.length := Nat.le_trans (within_le step_le _) (Nat.le_trans (arg_le _) (name_le s))
/-- The word told, or a fault. -/
theorem words_cases (ws : List ByteArray) (s : St) (h : s.2 = false) : ((words ws s).2.2 = false ∧ (words ws s).2.1.length + 1 = s.1.length) ∨ ((words ws s).2.2 = true ∧ (words ws s).1 = ⟨#[]⟩) := by
  obtain ⟨l, bad⟩ := s
  simp only at h
  subst h
  cases l with
  | nil => exact .inr ⟨rfl, rfl⟩
  | cons t r =>
    unfold words one
    by_cases hc : t.kind = 1 ∧ among ws t = true
    · simp only [if_pos hc]; simp
    · simp only [if_neg hc]; simp
theorem RecE.kp {base b : Nat} {T : List TypeId} {w w' : World} (h : Kp base T w w') (hb : base ≤ b) (h1 : 68 ∈ T) (h2 : 60 ∈ T) (cs : List Value) (x : Rec) (he : RecE (some b) w cs x) : RecE (some b) w' cs x := by
  obtain ⟨u, e, hs⟩ := he
  exact ⟨u, e, ERow.kp hs h hb h1 (FldE.kp h hb h2)⟩
theorem SvcE.kp {base b : Nat} {T : List TypeId} {w w' : World} (h : Kp base T w w') (hb : base ≤ b) (h1 : 85 ∈ T) (cs : List Value) (x : Svc) (he : SvcE (some b) w cs x) : SvcE (some b) w' cs x := by
  obtain ⟨u, e, hs⟩ := he
  exact ⟨u, e, ERow.kp hs h hb h1 MthE.kp⟩
theorem SagE.kp {base b : Nat} {T : List TypeId} {w w' : World} (h : Kp base T w w') (hb : base ≤ b) (h1 : 88 ∈ T) (cs : List Value) (x : Sag) (he : SagE (some b) w cs x) : SagE (some b) w' cs x := by
  obtain ⟨u, e, hs⟩ := he
  exact ⟨u, e, ERow.kp hs h hb h1 StpE.kp⟩
theorem RecsR.kp {base b : Nat} {T : List TypeId} {w w' : World} {v : Value} {l : List Rec} (hr : RecsR w (some b) v l) (h : Kp base T w w') (hb : base ≤ b) (h0 : 66 ∈ T) (h1 : 68 ∈ T) (h2 : 60 ∈ T) : RecsR w' (some b) v l := ERow.kp hr h hb h0 (RecE.kp h hb h1 h2)
theorem SvcsR.kp {base b : Nat} {T : List TypeId} {w w' : World} {v : Value} {l : List Svc} (hr : SvcsR w (some b) v l) (h : Kp base T w w') (hb : base ≤ b) (h0 : 77 ∈ T) (h1 : 85 ∈ T) : SvcsR w' (some b) v l := ERow.kp hr h hb h0 (SvcE.kp h hb h1)
theorem SagsR.kp {base b : Nat} {T : List TypeId} {w w' : World} {v : Value} {l : List Sag} (hr : SagsR w (some b) v l) (h : Kp base T w w') (hb : base ≤ b) (h0 : 81 ∈ T) (h1 : 88 ∈ T) : SagsR w' (some b) v l := ERow.kp hr h hb h0 (SagE.kp h hb h1)
theorem info_rec : (Tryz.prog.info? 66).map (fun i => (i.zero, i.size, i.bytes)) = some (some (.agg #[.string ByteArray.empty, .bool false, .slice none 0 0]), 3, 48) := by kernel_rfl
theorem info_svc : (Tryz.prog.info? 77).map (fun i => (i.zero, i.size, i.bytes)) = some (some (.agg #[.string ByteArray.empty, .slice none 0 0]), 2, 40) := by kernel_rfl
theorem info_sag : (Tryz.prog.info? 81).map (fun i => (i.zero, i.size, i.bytes)) = some (some (.agg #[.string ByteArray.empty, .string ByteArray.empty, .slice none 0 0]), 3, 56) := by kernel_rfl
/-- What has been read lies there. -/
def SchB (w : World) (g : Nat) (base : Nat) (x : Sch) : Prop := ∃ A1 n1 c1 A2 n2 c2 A3 n3 c3, Bk w g 26 #[.string x.name, .slice A1 n1 c1, .slice A2 n2 c2, .slice A3 n3 c3] ∧ RecsR w (some base) (.slice A1 n1 c1) x.records ∧ SvcsR w (some base) (.slice A2 n2 c2) x.services ∧ SagsR w (some base) (.slice A3 n3 c3) x.sagas
theorem SchB.kp {w w' : World} {g base : Nat} {x : Sch} (h : SchB w g base x) (hb : Bk w' g 26 = Bk w g 26) (hk : Kp base schT w w') : SchB w' g base x := by
  obtain ⟨A1, n1, c1, A2, n2, c2, A3, n3, c3, k, r1, r2, r3⟩ := h
  exact ⟨A1, n1, c1, A2, n2, c2, A3, n3, c3, by rw [hb]; exact k, r1.kp hk (Nat.le_refl _) (by decide) (by decide) (by decide), r2.kp hk (Nat.le_refl _) (by decide) (by decide), r3.kp hk (Nat.le_refl _) (by decide) (by decide)⟩
theorem SchB.call {w w' : World} {b g base : Nat} {x : Sch} (h : SchB w g base x) (hg : w.grownBy w' (some b)) (h1 : b < g) (h2 : b < base) : SchB w' g base x := by
  have hk : Kp base schT w w' := Kp.grown hg h2
  obtain ⟨A1, n1, c1, A2, n2, c2, A3, n3, c3, k, r1, r2, r3⟩ := h
  exact ⟨A1, n1, c1, A2, n2, c2, A3, n3, c3, k.call hg h1, r1.kp hk (Nat.le_refl _) (by decide) (by decide) (by decide), r2.kp hk (Nat.le_refl _) (by decide) (by decide), r3.kp hk (Nat.le_refl _) (by decide) (by decide)⟩
theorem SchB.below {w w' : World} {g base : Nat} {x : Sch} (h : SchB w g base x) (hb : Below w.heap.size w w') : SchB w' g base x := by
  have hk : Kp base schT w w' := Kp.below hb
  obtain ⟨A1, n1, c1, A2, n2, c2, A3, n3, c3, k, r1, r2, r3⟩ := h
  exact ⟨A1, n1, c1, A2, n2, c2, A3, n3, c3, k.below hb k.lt, r1.kp hk (Nat.le_refl _) (by decide) (by decide) (by decide), r2.kp hk (Nat.le_refl _) (by decide) (by decide), r3.kp hk (Nat.le_refl _) (by decide) (by decide)⟩
theorem SchB.rec {w : World} {g base : Nat} {x : Sch} {y : Rec} {A1 A2 A3 A7 : Option Addr} {n1 c1 n2 c2 n3 c3 n7 c7 : Nat} (hq : Bk w g 26 #[.string x.name, .slice A1 n1 c1, .slice A2 n2 c2, .slice A3 n3 c3]) (h1 : RecsR w (some base) (.slice A7 n7 c7) (x.records ++ [y])) (h2 : SvcsR w (some base) (.slice A2 n2 c2) x.services) (h3 : SagsR w (some base) (.slice A3 n3 c3) x.sagas) :
    SchB (w.setCell ⟨g, 1, none⟩ (.slice A7 n7 c7)) g base { x with records := x.records ++ [y] } := by
  have hk : Kp base schT w (w.setCell ⟨g, 1, none⟩ (.slice A7 n7 c7)) := (Only.set hq 1 _).kp base (by decide)
  exact ⟨A7, n7, c7, A2, n2, c2, A3, n3, c3, hq.set_ 1 _, h1.kp hk (Nat.le_refl _) (by decide) (by decide) (by decide), h2.kp hk (Nat.le_refl _) (by decide) (by decide), h3.kp hk (Nat.le_refl _) (by decide) (by decide)⟩
theorem SchB.svc {w : World} {g base : Nat} {x : Sch} {y : Svc} {A1 A2 A3 A7 : Option Addr} {n1 c1 n2 c2 n3 c3 n7 c7 : Nat} (hq : Bk w g 26 #[.string x.name, .slice A1 n1 c1, .slice A2 n2 c2, .slice A3 n3 c3]) (h1 : RecsR w (some base) (.slice A1 n1 c1) x.records) (h2 : SvcsR w (some base) (.slice A7 n7 c7) (x.services ++ [y])) (h3 : SagsR w (some base) (.slice A3 n3 c3) x.sagas) :
    SchB (w.setCell ⟨g, 2, none⟩ (.slice A7 n7 c7)) g base { x with services := x.services ++ [y] } := by
  have hk : Kp base schT w (w.setCell ⟨g, 2, none⟩ (.slice A7 n7 c7)) := (Only.set hq 2 _).kp base (by decide)
  exact ⟨A1, n1, c1, A7, n7, c7, A3, n3, c3, hq.set_ 2 _, h1.kp hk (Nat.le_refl _) (by decide) (by decide) (by decide), h2.kp hk (Nat.le_refl _) (by decide) (by decide), h3.kp hk (Nat.le_refl _) (by decide) (by decide)⟩
theorem SchB.sag {w : World} {g base : Nat} {x : Sch} {y : Sag} {A1 A2 A3 A7 : Option Addr} {n1 c1 n2 c2 n3 c3 n7 c7 : Nat} (hq : Bk w g 26 #[.string x.name, .slice A1 n1 c1, .slice A2 n2 c2, .slice A3 n3 c3]) (h1 : RecsR w (some base) (.slice A1 n1 c1) x.records) (h2 : SvcsR w (some base) (.slice A2 n2 c2) x.services) (h3 : SagsR w (some base) (.slice A7 n7 c7) (x.sagas ++ [y])) :
    SchB (w.setCell ⟨g, 3, none⟩ (.slice A7 n7 c7)) g base { x with sagas := x.sagas ++ [y] } := by
  have hk : Kp base schT w (w.setCell ⟨g, 3, none⟩ (.slice A7 n7 c7)) := (Only.set hq 3 _).kp base (by decide)
  exact ⟨A1, n1, c1, A2, n2, c2, A7, n7, c7, hq.set_ 3 _, h1.kp hk (Nat.le_refl _) (by decide) (by decide) (by decide), h2.kp hk (Nat.le_refl _) (by decide) (by decide), h3.kp hk (Nat.le_refl _) (by decide) (by decide)⟩
theorem PW.row {w0 w w' : World} {b : Nat} {s : St} (h : PW w0 w b s) {e : TypeId} (hb : Below w0.heap.size w w') (ho : Only e w w') (hw : 0 < w0.heap.size) (h1 : 154 ≠ e) (h2 : 152 ≠ e) : PW w0 w' b s :=
  ⟨h.ps.only ho h1 h2, ⟨Nat.lt_of_lt_of_le h.kw.1 hb.size, fun j hj => (hb.cell (p := ⟨0, 0 + j, none⟩) hw).trans (h.kw.2 j hj)⟩, gb_join h.gb hb⟩
theorem empty_toList : (⟨#[]⟩ : ByteArray).toList = [] := by unfold ByteArray.toList ByteArray.toList.loop; rfl
structure SchAt (w : World) (b : Nat) (R : Sch × St) (n : Nat) (wr : World) (s : St) (x : Sch) : Prop where
  fu : s.2 = false → s.1.length + 2 ≤ n
  fo : 1 ≤ n
  ln : x.records.length + x.services.length + x.sagas.length + s.1.length ≤ 1000000
  pw : PW w wr b s
  blk : SchB wr w.heap.size w.heap.size x
  out : schemaF n s x = R
end Id
