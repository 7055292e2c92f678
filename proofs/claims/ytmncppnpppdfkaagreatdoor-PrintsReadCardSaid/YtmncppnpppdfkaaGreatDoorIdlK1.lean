/- Chapter 12, plain: the parser over tokens: the rest of the tokens, and whether there was a fault. The parser: is, take, want. The parser: name. The parser: name; end. The parser: words. The parser: one with words' literal; printed by gen_idl_one.py. The parser: one with step's literal; printed by gen_idl_num.py. The parser: words. (merged by merge.py: XIdlMath XIdlA XIdlB XIdlC XIdlD XIdlE XIdlF XIdlG). No condition but the ones the theorems state. -/
import Derived.Test.YtmncppnpppdfkaaGreatDoorKT1
import Derived.Test.YtmncppnpppdfkaaGreatDoorK0
set_option linter.unusedVariables false
namespace Go.Proofs.YtmncppnpppdfkaaGreatDoor
namespace Id
abbrev St := List Tk.Tok × Bool
def is (s : St) (text : ByteArray) : Bool := !s.2 && (match s.1 with
  | [] => false
  | t :: _ => !(t.kind == 2) && (t.text.toList == text.toList))
def take (s : St) (text : ByteArray) : Bool × St := if is s text then (true, (s.1.tail, s.2)) else (false, s)
def want (s : St) (text : ByteArray) : St := if is s text then (s.1.tail, s.2) else (s.1, true)
def one (s : St) (kind : Nat) (right : Tk.Tok → Bool) : Tk.Tok × St := match s with
  | (t :: r, false) => if t.kind = kind ∧ right t = true then (t, (r, false)) else (⟨0, ⟨#[]⟩, 0, 0⟩, (t :: r, true))
  | (l, _) => (⟨0, ⟨#[]⟩, 0, 0⟩, (l, true))
end Id
end Go.Proofs.YtmncppnpppdfkaaGreatDoor
set_option linter.unusedVariables false
set_option linter.unusedSimpArgs false
namespace Go.Proofs.YtmncppnpppdfkaaGreatDoor
open Go.RowKit
/-- A block of tokens. -/
def Id.Typed (w : World) (g : Nat) : Prop := ∃ cs fr, w.heap[g]? = some (.cells cs 154 fr)
theorem Id.Typed.lt {w : World} {g : Nat} (h : Id.Typed w g) : g < w.heap.size := by
  obtain ⟨cs, fr, h⟩ := h
  exact (Array.getElem?_eq_some_iff.1 h).1
theorem Id.Typed.below {w w' : World} {g : Nat} (h : Id.Typed w g) (hb : Below w.heap.size w w') : Id.Typed w' g := by
  have hl := h.lt
  obtain ⟨cs, fr, h⟩ := h
  exact ⟨cs, fr, (hb.block g hl).trans h⟩
theorem Id.Typed.far {w : World} {g : Nat} (h : Id.Typed w g) {p : Addr} (hp : g ≠ p.block) (u : Value) : Id.Typed (w.setCell p u) g := by
  obtain ⟨cs, fr, h⟩ := h
  exact ⟨cs, fr, (Below.heap_setCell w p u g hp).trans h⟩
/-- The parser's block. -/
structure Id.Ps (w : World) (b : Nat) (s : Id.St) : Prop where
  lies : ∃ A c, Bk w b 152 #[.slice A s.1.length c, .bool s.2] ∧ Tk.ReadT w A s.1 ∧ s.1.length ≤ c ∧ c ≤ 9223372036854775807 ∧ (∀ ad, A = some ad → ad.block ≠ b)
  typ : ∀ g off n c bd, Bk w b 152 #[.slice (some ⟨g, off, none⟩) n c, .bool bd] → Id.Typed w g
theorem Id.typ_of {w : World} {b n c : Nat} {A : Option Addr} {bd : Bool} (hk : Bk w b 152 #[.slice A n c, .bool bd]) (ht : ∀ g off, A = some ⟨g, off, none⟩ → Id.Typed w g) : ∀ g off n c bd, Bk w b 152 #[.slice (some ⟨g, off, none⟩) n c, .bool bd] → Id.Typed w g := by
  intro g off n' c' bd' h
  unfold Bk at hk h
  rw [hk] at h
  simp only [Option.some.injEq, Obj.cells.injEq, Array.mk.injEq, List.cons.injEq, Value.slice.injEq] at h
  exact ht g off h.1.1.1
set_option maxRecDepth 100000 in
set_option maxHeartbeats 4000000 in
theorem pis_any (b : Nat) (s : Id.St) (text : ByteArray) (w : World) (h : Id.Ps w b s) :
    Calls Tryz.prog 164 #[.pointer (some ⟨b, 0, none⟩), .string text] w fun e w' => e = .returned (.bool (Id.is s text)) ∧ w' = w := by
  obtain ⟨A, c, hk, hr, hc, hc2, hne⟩ := h.lies
  obtain ⟨l, bad⟩ := s
  simp only at hk hr hc
  obtain ⟨⟨c0, c1⟩, _⟩ := hk.k2
  obtain ⟨R, HR⟩ : ∃ R, Hid (Id.is (l, bad) text = R) := ⟨_, Lib.hid rfl⟩
  rw [HR.out]
  cases bad
  case' true =>
    have HE : Hid (R = false) := Lib.hid (by rw [← HR.out]; rfl)
    go_enter Tryz.func164, Tryz.ntmps164
    go_wp2_with fail
    go_ret
    exact ⟨by rw [HE.out]; rfl, rfl⟩
  cases l with
  | nil =>
    have HE : Hid (R = false) := Lib.hid (by rw [← HR.out]; rfl)
    simp only [List.length_nil] at c0
    go_enter Tryz.func164, Tryz.ntmps164
    go_wp2_with fail
    go_ret
    exact ⟨by rw [HE.out]; rfl, rfl⟩
  | cons t r =>
    obtain ⟨g, off, rfl, hcs⟩ := hr (by simp)
    obtain ⟨t0, t1, t2, t3⟩ := hcs 0 (by simp)
    simp only [Nat.zero_mul, Nat.add_zero, List.getElem_cons_zero] at t0 t1 t2 t3
    have HE : Hid (R = (!(t.kind == 2) && (t.text.toList == text.toList))) := Lib.hid (by rw [← HR.out]; rfl)
    clear hr hcs HR hk
    obtain ⟨m, hm⟩ : ∃ m, m = (t :: r).length := ⟨_, rfl⟩
    rw [← hm] at c0 hc
    have hm0 : 0 < m := by rw [hm]; simp
    have hm1 : (0 : Int) < (m : Int) := by omega
    clear hm
    obtain ⟨tk, tt, tn, ta⟩ := t
    simp only at t0 t1 t2 t3 HE
    by_cases hk2 : tk = 2
    · subst hk2
      have HE2 : Hid (R = false) := Lib.hid (by rw [HE.out]; rfl)
      go_enter Tryz.func164, Tryz.ntmps164
      go_wp2_with fail
      go_ret
      exact ⟨by rw [HE2.out]; rfl, rfl⟩
    · have tk2 : ((tk : Int) != 2) = true := by rw [bne_iff_ne]; omega
      have HE2 : Hid (R = (tt.toList == text.toList)) := Lib.hid (by rw [HE.out, beq_eq_false_iff_ne.2 hk2]; rfl)
      clear hk2
      go_enter Tryz.func164, Tryz.ntmps164
      go_wp2_with fail
      go_ret
      exact ⟨by rw [HE2.out]; rfl, rfl⟩
theorem Id.is_cons {s : Id.St} {text : ByteArray} (h : Id.is s text = true) : ∃ t r, s = (t :: r, false) := by
  obtain ⟨l, bad⟩ := s
  cases bad
  · cases l with
    | nil => cases h
    | cons t r => exact ⟨t, r, rfl⟩
  · cases h
theorem Id.Ps.below {w w' : World} {b : Nat} {s : Id.St} (h : Id.Ps w b s) (hb : Below w.heap.size w w') : Id.Ps w' b s := by
  obtain ⟨A, c, h1, h2, h3⟩ := h.lies
  exact ⟨⟨A, c, h1.below hb h1.lt, h2.below hb, h3⟩, Id.typ_of (h1.below hb h1.lt) (fun g off e => by subst e; exact (h.typ _ _ _ _ _ h1).below hb)⟩
theorem Id.Ps.lt {w : World} {b : Nat} {s : Id.St} (h : Id.Ps w b s) : b < w.heap.size := by
  obtain ⟨A, c, h1, h2, h3⟩ := h.lies
  exact h1.lt
theorem Tk.ReadT.set' {w : World} {A : Option Addr} {ls : List Tk.Tok} (h : Tk.ReadT w A ls) {b j : Nat} (hne : ∀ ad, A = some ad → ad.block ≠ b) (v : Value) : Tk.ReadT (w.setCell ⟨b, j, none⟩ v) A ls := fun h0 => by
  obtain ⟨g, off, rfl, hc⟩ := h h0
  have hb : g ≠ b := hne _ rfl
  have k : ∀ o, (w.setCell ⟨b, j, none⟩ v).cell? ⟨g, o, none⟩ = w.cell? ⟨g, o, none⟩ := fun o => World.cell?_setCell_other _ _ _ _ (by intro e; injection e with e1; exact hb e1.symm)
  exact ⟨g, off, rfl, fun j hj => by rw [k, k, k, k]; exact hc j hj⟩
theorem Tk.ReadT.tail' {w : World} {g off : Nat} {t : Tk.Tok} {r : List Tk.Tok} (h : Tk.ReadT w (some ⟨g, off, none⟩) (t :: r)) : Tk.ReadT w (some ⟨g, off + 4, none⟩) r := fun h0 => by
  obtain ⟨g', off', e, hc⟩ := h (by simp)
  injection e with e
  injection e with e1 e2
  subst e1 e2
  refine ⟨_, _, rfl, fun j hj => ?_⟩
  have := hc (j + 1) (by simpa using hj)
  rw [show off + (j + 1) * 4 = off + 4 + j * 4 by omega] at this
  simpa using this
theorem Id.Ps.next {w : World} {b g off off' c c' m : Nat} {t : Tk.Tok} {r : List Tk.Tok} (hk : Bk w b 152 #[.slice (some ⟨g, off, none⟩) (m + 1) c, .bool false]) (hr : Tk.ReadT w (some ⟨g, off, none⟩) (t :: r)) (hm : m = r.length) (hne : ∀ ad, some (⟨g, off, none⟩ : Addr) = some ad → ad.block ≠ b)
    (hty : Id.Typed w g) (hc : c ≤ 9223372036854775807) (hmc : m + 1 ≤ c) (h : (off' = off + 4 ∧ c' = c - 1) ∨ (m = 0 ∧ c' = 0)) : Id.Ps (w.setCell ⟨b, 0, none⟩ (.slice (some ⟨g, off', none⟩) m c')) b (r, false) := by
  have hb : g ≠ b := hne _ rfl
  refine ⟨⟨some ⟨g, off', none⟩, c', ?_, ?_, ?_, ?_, fun ad e => by injection e with e; subst e; exact hb⟩, Id.typ_of (hk.set_ 0 (.slice (some ⟨g, off', none⟩) m c')) (fun g2 off2 e => by injection e with e; injection e with e1 e2; subst e1; exact hty.far hb _)⟩
  · have := hk.set_ 0 (.slice (some ⟨g, off', none⟩) m c')
    rw [← hm]
    exact this
  · rcases h with ⟨rfl, _⟩ | ⟨h0, _⟩
    · exact hr.tail'.set' (fun ad e => by injection e with e; subst e; exact hb) _
    · intro h1
      simp only at h1
      omega
  · simp only
    omega
  · omega
set_option maxRecDepth 100000 in
set_option maxHeartbeats 4000000 in
theorem ptake_any (b : Nat) (s : Id.St) (text : ByteArray) (w : World) (h : Id.Ps w b s) :
    Calls Tryz.prog 107 #[.pointer (some ⟨b, 0, none⟩), .string text] w fun e w' => e = .returned (.bool (Id.take s text).1) ∧ w.grownBy w' (some b) ∧ Id.Ps w' b (Id.take s text).2 := by
  have HPS := Lib.hid h
  obtain ⟨R, HR⟩ : ∃ R, Hid (Id.take s text = R) := ⟨_, Lib.hid rfl⟩
  rw [HR.out]
  go_enter Tryz.func107, Tryz.ntmps107
  go_wp2_with fail
  refine (pis_any b s text _ h).mono ?_
  rintro e w' ⟨rfl, rfl⟩
  cases hi : Id.is s text
  · have HE : Hid (R = (false, s)) := Lib.hid (by rw [← HR.out]; unfold Id.take; rw [hi]; rfl)
    go_wp2_with fail
    go_ret
    exact ⟨by rw [HE.out]; rfl, gb_refl _ _, by rw [HE.out]; exact HPS.out⟩
  · obtain ⟨t, r, rfl⟩ := Id.is_cons hi
    have HE : Hid (R = (true, (r, false))) := Lib.hid (by rw [← HR.out]; unfold Id.take; rw [hi]; rfl)
    obtain ⟨A, c, hk, hr, hc, hc2, hne⟩ := h.lies
    simp only [List.length_cons] at hk hc
    obtain ⟨⟨c0, c1⟩, f0, f1⟩ := hk.k2
    obtain ⟨g, off, rfl, hcs⟩ := hr (by simp)
    obtain ⟨m, hm⟩ : ∃ m, m = r.length := ⟨_, rfl⟩
    rw [← hm] at c0 hc hk
    have i1 : (1 : Int) ≤ (m : Int) + 1 := by omega
    have i2 : (m : Int) + 1 ≤ (c : Int) := by omega
    have i3 : 1 ≤ m + 1 := by omega
    have i4 : m + 1 ≤ c := by omega
    have HM := Lib.hid hm
    clear hm h
    go_wp2_with fail
    all_goals
      go_ret
      exact ⟨by rw [HE.out]; rfl, gb_set (gb_refl _ _) (.inl rfl) _, by rw [HE.out]; exact Id.Ps.next hk hr HM.out hne (HPS.out.typ _ _ _ _ _ hk) hc2 hc (by first | exact .inl ⟨rfl, rfl⟩ | exact .inr ⟨by omega, rfl⟩)⟩
theorem Id.Ps.fault {w : World} {b : Nat} {s : Id.St} (h : Id.Ps w b s) : Id.Ps (w.setCell ⟨b, 1, none⟩ (.bool true)) b (s.1, true) := by
  obtain ⟨A, c, h1, h2, h3, h4, h5⟩ := h.lies
  exact ⟨⟨A, c, h1.set_ 1 (.bool true), h2.set' h5 _, h3, h4, h5⟩, Id.typ_of (h1.set_ 1 (.bool true)) (fun g off e => by subst e; exact (h.typ _ _ _ _ _ h1).far (h5 _ rfl) _)⟩
set_option maxRecDepth 100000 in
set_option maxHeartbeats 4000000 in
theorem pwant_any (b : Nat) (s : Id.St) (text : ByteArray) (w : World) (h : Id.Ps w b s) :
    Calls Tryz.prog 110 #[.pointer (some ⟨b, 0, none⟩), .string text] w fun e w' => e = .returned (.tuple #[]) ∧ w.grownBy w' (some b) ∧ Id.Ps w' b (Id.want s text) := by
  have HPS := Lib.hid h
  obtain ⟨R, HR⟩ : ∃ R, Hid (Id.want s text = R) := ⟨_, Lib.hid rfl⟩
  rw [HR.out]
  go_enter Tryz.func110, Tryz.ntmps110
  go_wp2_with fail
  refine (ptake_any b s text _ h).mono ?_
  rintro e w1 ⟨rfl, hg, hp⟩
  cases hi : Id.is s text
  · have HT : Hid (Id.take s text = (false, s)) := Lib.hid (by unfold Id.take; rw [hi]; rfl)
    have HE : Hid (R = (s.1, true)) := Lib.hid (by rw [← HR.out]; unfold Id.want; rw [hi]; rfl)
    rw [HT.out] at hp ⊢
    simp only at hp ⊢
    obtain ⟨A, c, hk, _⟩ := hp.lies
    obtain ⟨⟨c0, c1⟩, f0, f1⟩ := hk.k2
    have HP := Lib.hid hp
    clear hp hk
    go_wp2_with fail
    refine bodyPost_end (results_none rfl _ _ _) rfl ?_
    exact ⟨rfl, gb_set hg (.inl rfl) _, by rw [HE.out]; exact HP.out.fault⟩
  · have HT : Hid (Id.take s text = (true, (s.1.tail, s.2))) := Lib.hid (by unfold Id.take; rw [hi]; rfl)
    have HE : Hid (R = (s.1.tail, s.2)) := Lib.hid (by rw [← HR.out]; unfold Id.want; rw [hi]; rfl)
    rw [HT.out] at hp ⊢
    simp only at hp ⊢
    go_wp2_with fail
    refine bodyPost_end (results_none rfl _ _ _) rfl ?_
    exact ⟨rfl, hg, by rw [HE.out]; exact hp⟩
end Go.Proofs.YtmncppnpppdfkaaGreatDoor
set_option linter.unusedVariables false
set_option linter.unusedSimpArgs false
namespace Go.Proofs.YtmncppnpppdfkaaGreatDoor
open Go.RowKit
set_option maxRecDepth 100000 in
set_option maxHeartbeats 4000000 in
theorem pname1_any (t : Tk.Tok) (w : World) (hk : Tk.KW w) :
    Calls Tryz.prog 166 #[t.val] w fun e w' => e = .returned (.bool (Tk.isName t.text)) ∧ Below w.heap.size w w' := by
  unfold Tk.Tok.val
  go_enter Tryz.func166, Tryz.ntmps166
  go_wp2_with fail
  refine (name_any t.text _ (hk.below ((Below.refl _ _).alloc (Nat.le_refl _) _))).mono ?_
  rintro e w1 ⟨rfl, hb⟩
  go_wp2_with fail
  go_ret
  exact ⟨rfl, bl_join ((Below.refl _ _).alloc (Nat.le_refl _) _) hb⟩
def Id.tok0 : Tk.Tok := ⟨0, ⟨#[]⟩, 0, 0⟩
set_option maxRecDepth 100000 in
set_option maxHeartbeats 4000000 in
theorem pone_name (b : Nat) (hb0 : 0 < b) (s : Id.St) (w : World) (hk : Tk.KW w) (h : Id.Ps w b s) :
    Calls Tryz.prog 165 #[.pointer (some ⟨b, 0, none⟩), .int .u8 1, .func (.func 166) #[] #[]] w fun e w' => e = .returned (Id.one s 1 (fun t => Tk.isName t.text)).1.val ∧ w.grownBy w' (some b) ∧ Id.Ps w' b (Id.one s 1 (fun t => Tk.isName t.text)).2 := by
  have HPS := Lib.hid h
  obtain ⟨R, HR⟩ : ∃ R, Hid (Id.one s 1 (fun t => Tk.isName t.text) = R) := ⟨_, Lib.hid rfl⟩
  rw [HR.out]
  obtain ⟨A, c, hk0, hr, hc, hc2, hne⟩ := h.lies
  obtain ⟨l, bad⟩ := s
  simp only at hk0 hr hc
  have hbw := hk0.lt
  have hbn : ¬ b = w.heap.size := by omega
  obtain ⟨⟨c0, c1⟩, f0, f1⟩ := hk0.k2
  go_enter Tryz.func165, Tryz.ntmps165
  cases bad
  case' true =>
    have HE : Hid (R = (Id.tok0, (l, true))) := Lib.hid (by rw [← HR.out]; cases l <;> rfl)
    go_wp2_with fail
    refine bodyPost_ret (v := Id.tok0.val) ?_ rfl ⟨by rw [HE.out], gb_alloc (gb_set (gb_refl _ _) (.inl rfl) _) _, by rw [HE.out]; exact HPS.out.fault.below ((Below.refl _ _).alloc (Nat.le_refl _) _)⟩
    rw [res_c rfl]
    go_simp
    rfl
  cases l with
  | nil =>
    have HE : Hid (R = (Id.tok0, ([], true))) := Lib.hid (by rw [← HR.out]; rfl)
    simp only [List.length_nil] at c0
    go_wp2_with fail
    refine bodyPost_ret (v := Id.tok0.val) ?_ rfl ⟨by rw [HE.out], gb_alloc (gb_set (gb_refl _ _) (.inl rfl) _) _, by rw [HE.out]; exact HPS.out.fault.below ((Below.refl _ _).alloc (Nat.le_refl _) _)⟩
    rw [res_c rfl]
    go_simp
    rfl
  | cons t r =>
    obtain ⟨g, off, rfl, hcs⟩ := hr (by simp)
    obtain ⟨t0, t1, t2, t3⟩ := hcs 0 (by simp)
    simp only [Nat.zero_mul, Nat.add_zero, List.getElem_cons_zero] at t0 t1 t2 t3
    have HX : Hid (R = if t.kind = 1 ∧ Tk.isName t.text = true then (t, (r, false)) else (Id.tok0, (t :: r, true))) := Lib.hid (by rw [← HR.out]; rfl)
    clear hcs HR h
    simp only [List.length_cons] at c0 hk0 hc
    obtain ⟨m, hm⟩ : ∃ m, m = r.length := ⟨_, rfl⟩
    rw [← hm] at c0 hc hk0
    have HM := Lib.hid hm
    have hm1 : ¬ (m : Int) + 1 = 0 := by omega
    have hm2 : (0 : Int) < (m : Int) + 1 := by omega
    have hm3 : ((m : Int) + 1 == 0) = false := by rw [beq_eq_false_iff_ne]; omega
    have hgl : g < w.heap.size := World.block_lt_of_cell? w _ t0
    have hgn : ¬ g = w.heap.size := by omega
    clear hm
    by_cases hkd : t.kind = 1
    case' neg =>
      have tkd : ((t.kind : Int) != 1) = true := by rw [bne_iff_ne]; omega
      have HE : Hid (R = (Id.tok0, (t :: r, true))) := Lib.hid (by rw [HX.out, if_neg (fun h => hkd h.1)])
      clear hkd
      go_wp2_with fail
      refine bodyPost_ret (v := Id.tok0.val) ?_ rfl ⟨by rw [HE.out], gb_alloc (gb_set (gb_refl _ _) (.inl rfl) _) _, by rw [HE.out]; exact HPS.out.fault.below ((Below.refl _ _).alloc (Nat.le_refl _) _)⟩
      rw [res_c rfl]
      go_simp
      rfl
    have HX2 : Hid (R = if Tk.isName t.text = true then (t, (r, false)) else (Id.tok0, (t :: r, true))) := Lib.hid (by rw [HX.out]; simp [hkd])
    clear HX hgn
    go_upto_region 1 with (fail)
    have hbl := (Below.refl w.heap.size w).alloc (Nat.le_refl _) (.cells #[.int .u8 0, .string ⟨#[]⟩, .int .i64 0, .int .i64 0] 154)
    have hq := Bk.new w 154 #[.int .u8 0, .string ⟨#[]⟩, .int .i64 0, .int .i64 0]
    have hkw := hk.below hbl
    have hk1 := hk0.below hbl hk0.lt
    have hr1 := hr.below hbl
    have hP1 := HPS.out.below hbl
    have hg1 := gb_below hbl (some b)
    clear hk hk0 hr HPS hbl c0 c1 f0 f1 t0 t1 t2 t3
    generalize (w.alloc (.cells #[.int .u8 0, .string ⟨#[]⟩, .int .i64 0, .int .i64 0] 154)) = w1 at *
    generalize htb : w.heap.size = tb at *
    have HTB := Lib.hid htb
    clear htb
    obtain ⟨⟨c0, c1⟩, f0, f1⟩ := hk1.k2
    obtain ⟨g', off', e, hcs⟩ := hr1 (by simp)
    injection e with e
    injection e with e1 e2
    subst e1 e2
    obtain ⟨t0, t1, t2, t3⟩ := hcs 0 (by simp)
    simp only [Nat.zero_mul, Nat.add_zero, List.getElem_cons_zero] at t0 t1 t2 t3
    clear hcs
    obtain ⟨tk, tt, tn, ta⟩ := t
    simp only at hkd t0 t1 t2 t3
    subst hkd
    go_wp2_with fail
    refine (pname1_any ⟨1, tt, tn, ta⟩ _ hkw).mono ?_
    rintro e w2 ⟨rfl, hb2⟩
    simp only
    have hg2 := gb_trans hg1 (gb_below hb2 (some b))
    have hq2 := hq.below hb2 hq.lt
    have hk2 := hk1.below hb2 hk1.lt
    have hr2 := hr1.below hb2
    have hP2 := hP1.below hb2
    clear hq hk1 hr1 hP1 hg1 c0 c1 f0 f1 t0 t1 t2 t3 hb2 hkw
    obtain ⟨⟨c0, c1⟩, f0, f1⟩ := hk2.k2
    obtain ⟨⟨q0, q1, q2, q3⟩, p0, p1, p2, p3⟩ := hq2.k4
    obtain ⟨g', off', e, hcs⟩ := hr2 (by simp)
    injection e with e
    injection e with e1 e2
    subst e1 e2
    obtain ⟨t0, t1, t2, t3⟩ := hcs 0 (by simp)
    simp only [Nat.zero_mul, Nat.add_zero, List.getElem_cons_zero] at t0 t1 t2 t3
    clear hcs
    obtain ⟨nm, hnm⟩ : ∃ nm, Tk.isName tt = nm := ⟨_, rfl⟩
    rw [hnm] at HX2 ⊢
    cases nm with
    | false =>
      have HE : Hid (R = (Id.tok0, (⟨1, tt, tn, ta⟩ :: r, true))) := Lib.hid (by rw [HX2.out]; simp)
      clear HX2 hnm
      go_wp2_with fail
      refine bodyPost_ret (v := Id.tok0.val) ?_ rfl ⟨by rw [HE.out], gb_set hg2 (.inl rfl) _, by rw [HE.out]; exact hP2.fault⟩
      rw [res_c rfl]
      go_simp
      rfl
    | true =>
      have HE : Hid (R = (⟨1, tt, tn, ta⟩, (r, false))) := Lib.hid (by rw [HX2.out]; simp)
      have i1 : (1 : Int) ≤ (m : Int) + 1 := by omega
      have i2 : (m : Int) + 1 ≤ (c : Int) := by omega
      have i3 : 1 ≤ m + 1 := by omega
      have i4 : m + 1 ≤ c := by omega
      clear HX2 hnm
      go_wp2_with fail
      go_region
      have htg : ∀ ad, some (⟨g, off, none⟩ : Addr) = some ad → ad.block ≠ tb := fun ad e => by injection e with e; subst e; show g ≠ tb; omega
      have hkf := (((hk2.far (p := ⟨tb, 0, none⟩) hbn (.int .u8 1)).far (p := ⟨tb, 1, none⟩) hbn (.string tt)).far (p := ⟨tb, 2, none⟩) hbn (.int .i64 tn)).far (p := ⟨tb, 3, none⟩) hbn (.int .i64 ta)
      have hrf := (((hr2.set' (j := 0) htg (.int .u8 1)).set' (j := 1) htg (.string tt)).set' (j := 2) htg (.int .i64 tn)).set' (j := 3) htg (.int .i64 ta)
      have htn : g ≠ tb := by omega
      have hty := ((((hP2.typ _ _ _ _ _ hk2).far (p := ⟨tb, 0, none⟩) htn (.int .u8 1)).far (p := ⟨tb, 1, none⟩) htn (.string tt)).far (p := ⟨tb, 2, none⟩) htn (.int .i64 tn)).far (p := ⟨tb, 3, none⟩) htn (.int .i64 ta)
      have hgf := gb_set (gb_set (gb_set (gb_set hg2 (p := ⟨tb, 0, none⟩) (.inr (by rw [HTB.out]; exact Nat.le_refl _)) (.int .u8 1)) (p := ⟨tb, 1, none⟩) (.inr (by rw [HTB.out]; exact Nat.le_refl _)) (.string tt)) (p := ⟨tb, 2, none⟩) (.inr (by rw [HTB.out]; exact Nat.le_refl _)) (.int .i64 tn)) (p := ⟨tb, 3, none⟩) (.inr (by rw [HTB.out]; exact Nat.le_refl _)) (.int .i64 ta)
      have hqf := (((hq2.set_ 0 (.int .u8 1)).set_ 1 (.string tt)).set_ 2 (.int .i64 tn)).set_ 3 (.int .i64 ta)
      clear c0 c1 f0 f1 q0 q1 q2 q3 p0 p1 p2 p3 t0 t1 t2 t3 hk2 hr2 hq2 hg2
      generalize ((((w2.setCell ⟨tb, 0, none⟩ (.int .u8 1)).setCell ⟨tb, 1, none⟩ (.string tt)).setCell ⟨tb, 2, none⟩ (.int .i64 tn)).setCell ⟨tb, 3, none⟩ (.int .i64 ta)) = w3 at *
      have hqg := fun (o : Nat) (u : Value) => hqf.far (p := ⟨b, o, none⟩) (Ne.symm hbn) u
      by_cases hc1 : c = 1
      · rw [if_pos hc1]
        obtain ⟨⟨q0, q1, q2, q3⟩, _⟩ := (hqg 0 (.slice (some ⟨g, off, none⟩) m (c - 1))).k4
        have hPf := Id.Ps.next hkf hrf HM.out hne hty hc2 hc (off' := off) (c' := c - 1) (.inr ⟨by omega, by omega⟩)
        have hgg := gb_set hgf (p := ⟨b, 0, none⟩) (.inl rfl) (.slice (some ⟨g, off, none⟩) m (c - 1))
        generalize (w3.setCell ⟨b, 0, none⟩ (.slice (some ⟨g, off, none⟩) m (c - 1))) = w4 at *
        go_wp2_with fail
        refine bodyPost_ret (v := Tk.Tok.val ⟨1, tt, tn, ta⟩) ?_ rfl ⟨by rw [HE.out], gb_drew hgg, by rw [HE.out]; exact hPf.below (Below.refl _ _).drew⟩
        rw [res_c rfl]
        go_simp
        rfl
      · rw [if_neg hc1]
        obtain ⟨⟨q0, q1, q2, q3⟩, _⟩ := (hqg 0 (.slice (some ⟨g, off + 4, none⟩) m (c - 1))).k4
        have hPf := Id.Ps.next hkf hrf HM.out hne hty hc2 hc (off' := off + 4) (c' := c - 1) (.inl ⟨rfl, rfl⟩)
        have hgg := gb_set hgf (p := ⟨b, 0, none⟩) (.inl rfl) (.slice (some ⟨g, off + 4, none⟩) m (c - 1))
        generalize (w3.setCell ⟨b, 0, none⟩ (.slice (some ⟨g, off + 4, none⟩) m (c - 1))) = w4 at *
        go_wp2_with fail
        refine bodyPost_ret (v := Tk.Tok.val ⟨1, tt, tn, ta⟩) ?_ rfl ⟨by rw [HE.out], gb_drew hgg, by rw [HE.out]; exact hPf.below (Below.refl _ _).drew⟩
        rw [res_c rfl]
        go_simp
        rfl
end Go.Proofs.YtmncppnpppdfkaaGreatDoor
set_option linter.unusedVariables false
set_option linter.unusedSimpArgs false
namespace Go.Proofs.YtmncppnpppdfkaaGreatDoor
open Go.RowKit
theorem field_tok (a b c d : Value) (w : World) : Sem.run Tryz.prog (Instr.field 154 (.agg #[a, b, c, d]) 1) w = .ok b w := by kernel_rfl
def Id.name (s : Id.St) : ByteArray × Id.St := ((Id.one s 1 (fun t => Tk.isName t.text)).1.text, (Id.one s 1 (fun t => Tk.isName t.text)).2)
set_option maxRecDepth 100000 in
set_option maxHeartbeats 4000000 in
theorem pname_any (b : Nat) (hb0 : 0 < b) (s : Id.St) (w : World) (hk : Tk.KW w) (h : Id.Ps w b s) :
    Calls Tryz.prog 109 #[.pointer (some ⟨b, 0, none⟩)] w fun e w' => e = .returned (.string (Id.name s).1) ∧ w.grownBy w' (some b) ∧ Id.Ps w' b (Id.name s).2 := by
  unfold Id.name
  obtain ⟨R, HR⟩ : ∃ R, Hid (Id.one s 1 (fun t => Tk.isName t.text) = R) := ⟨_, Lib.hid rfl⟩
  rw [HR.out]
  obtain ⟨⟨tk, tt, tn, ta⟩, s2⟩ := R
  go_enter Tryz.func109, Tryz.ntmps109
  go_wp2_with fail
  refine (pone_name b hb0 s _ hk h).mono ?_
  rintro e w1 ⟨rfl, hg, hp⟩
  rw [HR.out] at hp ⊢
  simp only [Tk.Tok.val] at hp ⊢
  have hfl := field_tok
  go_wp2_with fail
  go_ret
  exact ⟨rfl, hg, hp⟩
/-- What a word that ends a type says. -/
def Id.endW (s : ByteArray) : Nat := if s.toList = [110, 111, 110, 101] then 1 else if s.toList = [98, 111, 111, 108] then 2 else if s.toList = [105, 110, 116] then 3 else if s.toList = [116, 101, 120, 116] then 4 else 0
set_option maxRecDepth 100000 in
set_option maxHeartbeats 4000000 in
theorem pend_any (s : ByteArray) (w : World) : Calls Tryz.prog 108 #[.string s] w fun e w' => e = .returned (.int .u8 (Id.endW s)) ∧ w' = w := by
  obtain ⟨R, HR⟩ : ∃ R, Hid (Id.endW s = R) := ⟨_, Lib.hid rfl⟩
  rw [HR.out]
  go_enter Tryz.func108, Tryz.ntmps108
  go_wp2_with fail
  all_goals go_ret
  all_goals refine ⟨?_, rfl⟩
  all_goals rw [← HR.out]; unfold Id.endW; simp_all
end Go.Proofs.YtmncppnpppdfkaaGreatDoor
set_option linter.unusedVariables false
set_option linter.unusedSimpArgs false
namespace Go.Proofs.YtmncppnpppdfkaaGreatDoor
open Go.RowKit
def Id.among (some : List ByteArray) (t : Tk.Tok) : Bool := some.any fun x => t.text.toList == x.toList
set_option maxRecDepth 100000 in
set_option maxHeartbeats 4000000 in
theorem pwords1_any (pb : Nat) (A : Option Addr) (n c : Nat) (ws : List ByteArray) (hn : ws.length = n) (hm : n ≤ 1000) (t : Tk.Tok) (w : World) (hb : w.cell? ⟨pb, 0, none⟩ = some (.slice A n c)) (hl : Lie w A (ws.flatMap fun x => [.string x])) :
    Calls Tryz.prog 167 #[t.val, .pointer (some ⟨pb, 0, none⟩)] w fun e w' => e = .returned (.bool (Id.among ws t)) ∧ Below w.heap.size w w' := by
  have Hn := Lib.hid hn
  have Hl := Lib.hid hl
  clear hn hl
  obtain ⟨R, HR⟩ : ∃ R, Hid (Id.among ws t = R) := ⟨_, Lib.hid rfl⟩
  rw [HR.out]
  have hpb : pb < w.heap.size := World.block_lt_of_cell? w _ hb
  have hpn : ¬ pb = w.heap.size := by omega
  unfold Tk.Tok.val
  go_enter Tryz.func167, Tryz.ntmps167
  go_wp2_with fail
  have hbl := (Below.refl w.heap.size w).alloc (Nat.le_refl _) (.cells #[.int .u8 t.kind, .string t.text, .int .i64 t.num, .int .i64 t.at_] 154)
  have hq := Bk.new w 154 #[.int .u8 t.kind, .string t.text, .int .i64 t.num, .int .i64 t.at_]
  have HL := Lib.hid (Hl.out.below hbl)
  have HB := Lib.hid hbl
  have d1 := hq.k4.1.2.1
  clear hbl hq hb hpb hpn
  generalize (w.alloc (.cells #[.int .u8 t.kind, .string t.text, .int .i64 t.num, .int .i64 t.at_] 154)) = w1 at *
  have HR0 : Hid (R = Id.among (ws.drop 0) t) := Lib.hid (by rw [← HR.out]; rfl)
  go_loopw [8] (fun i wr => ∃ k : Nat, k ≤ n ∧ i = .int .i64 k ∧ Hid (R = Id.among (ws.drop k) t) ∧ Hid (wr = w1)) (fun i _ => n - (intOf i).toNat)
  case atStart => exact ⟨0, by omega, rfl, HR0, Lib.hid rfl⟩
  case round =>
    obtain ⟨k, hk, rfl, HK, HW⟩ := hrel
    obtain rfl := HW.out
    by_cases l1 : k < n
    · have hkl : k < ws.length := by rw [Hn.out]; exact l1
      obtain ⟨ag, ao, rfl, hca⟩ := HL.out.get (f := fun x : ByteArray => [Value.string x]) (m := 1) (fun _ => rfl) hkl (by omega)
      have a0 := hca 0 _ rfl
      have i0 : (0 : Int) ≤ (k : Int) := by omega
      have i1 : (k : Int) < (n : Int) := by omega
      have HD : Hid (R = ((t.text.toList == ws[k].toList) || Id.among (ws.drop (k + 1)) t)) := Lib.hid (by rw [HK.out, List.drop_eq_getElem_cons hkl]; rfl)
      simp only [Nat.mul_one, Nat.add_zero] at a0
      clear hca HK HW
      generalize ws[k] = x at *
      cases hx : (t.text.toList == x.toList)
      · have HE : Hid (R = Id.among (ws.drop (k + 1)) t) := Lib.hid (by rw [HD.out, hx]; rfl)
        clear HD
        go_wp2_with fail
        go_roundw
        case rel => exact ⟨k + 1, by omega, by go_num, HE, Lib.hid trivial⟩
        case measure => simp [intOf]; omega
      · have HE : Hid (R = true) := Lib.hid (by rw [HD.out, hx]; rfl)
        clear HD
        go_wp2_with fail
        go_ret
        exact ⟨by rw [HE.out]; rfl, HB.out⟩
    · obtain rfl : k = n := by omega
      have HE : Hid (R = false) := Lib.hid (by rw [HK.out, List.drop_of_length_le (by rw [Hn.out]; exact Nat.le_refl _)]; rfl)
      go_wp2_with fail
      go_ret
      exact ⟨by rw [HE.out]; rfl, HB.out⟩
end Go.Proofs.YtmncppnpppdfkaaGreatDoor
set_option linter.unusedVariables false
set_option linter.unusedSimpArgs false
namespace Go.Proofs.YtmncppnpppdfkaaGreatDoor
open Go.RowKit
set_option maxRecDepth 100000 in
set_option maxHeartbeats 4000000 in
theorem pone_words (pb : Nat) (A2 : Option Addr) (n2 c2 : Nat) (ws : List ByteArray) (hn2 : ws.length = n2) (hm2' : n2 ≤ 1000) (b : Nat) (s : Id.St) (w : World) (hbx : w.cell? ⟨pb, 0, none⟩ = some (.slice A2 n2 c2)) (hlx : Lie w A2 (ws.flatMap fun x => [.string x])) (h : Id.Ps w b s) :
    Calls Tryz.prog 165 #[.pointer (some ⟨b, 0, none⟩), .int .u8 1, .func (.func 167) #[] #[.pointer (some ⟨pb, 0, none⟩)]] w fun e w' => e = .returned (Id.one s 1 (Id.among ws)).1.val ∧ w.grownBy w' (some b) ∧ Id.Ps w' b (Id.one s 1 (Id.among ws)).2 := by
  have HPS := Lib.hid h
  have HBX := Lib.hid hbx
  have HLX := Lib.hid hlx
  have HN2 := Lib.hid hn2
  clear hbx hlx hn2
  obtain ⟨R, HR⟩ : ∃ R, Hid (Id.one s 1 (Id.among ws) = R) := ⟨_, Lib.hid rfl⟩
  rw [HR.out]
  obtain ⟨A, c, hk0, hr, hc, hc2, hne⟩ := h.lies
  obtain ⟨l, bad⟩ := s
  simp only at hk0 hr hc
  have hbw := hk0.lt
  have hbn : ¬ b = w.heap.size := by omega
  obtain ⟨⟨c0, c1⟩, f0, f1⟩ := hk0.k2
  go_enter Tryz.func165, Tryz.ntmps165
  cases bad
  case' true =>
    have HE : Hid (R = (Id.tok0, (l, true))) := Lib.hid (by rw [← HR.out]; cases l <;> rfl)
    go_wp2_with fail
    refine bodyPost_ret (v := Id.tok0.val) ?_ rfl ⟨by rw [HE.out], gb_alloc (gb_set (gb_refl _ _) (.inl rfl) _) _, by rw [HE.out]; exact HPS.out.fault.below ((Below.refl _ _).alloc (Nat.le_refl _) _)⟩
    rw [res_c rfl]
    go_simp
    rfl
  cases l with
  | nil =>
    have HE : Hid (R = (Id.tok0, ([], true))) := Lib.hid (by rw [← HR.out]; rfl)
    simp only [List.length_nil] at c0
    go_wp2_with fail
    refine bodyPost_ret (v := Id.tok0.val) ?_ rfl ⟨by rw [HE.out], gb_alloc (gb_set (gb_refl _ _) (.inl rfl) _) _, by rw [HE.out]; exact HPS.out.fault.below ((Below.refl _ _).alloc (Nat.le_refl _) _)⟩
    rw [res_c rfl]
    go_simp
    rfl
  | cons t r =>
    obtain ⟨g, off, rfl, hcs⟩ := hr (by simp)
    obtain ⟨t0, t1, t2, t3⟩ := hcs 0 (by simp)
    simp only [Nat.zero_mul, Nat.add_zero, List.getElem_cons_zero] at t0 t1 t2 t3
    have HX : Hid (R = if t.kind = 1 ∧ Id.among ws t = true then (t, (r, false)) else (Id.tok0, (t :: r, true))) := Lib.hid (by rw [← HR.out]; rfl)
    clear hcs HR h
    simp only [List.length_cons] at c0 hk0 hc
    obtain ⟨m, hm⟩ : ∃ m, m = r.length := ⟨_, rfl⟩
    rw [← hm] at c0 hc hk0
    have HM := Lib.hid hm
    have hm1 : ¬ (m : Int) + 1 = 0 := by omega
    have hm2 : (0 : Int) < (m : Int) + 1 := by omega
    have hm3 : ((m : Int) + 1 == 0) = false := by rw [beq_eq_false_iff_ne]; omega
    have hgl : g < w.heap.size := World.block_lt_of_cell? w _ t0
    have hgn : ¬ g = w.heap.size := by omega
    clear hm
    by_cases hkd : t.kind = 1
    case' neg =>
      have tkd : ((t.kind : Int) != 1) = true := by rw [bne_iff_ne]; omega
      have HE : Hid (R = (Id.tok0, (t :: r, true))) := Lib.hid (by rw [HX.out, if_neg (fun h => hkd h.1)])
      clear hkd
      go_wp2_with fail
      refine bodyPost_ret (v := Id.tok0.val) ?_ rfl ⟨by rw [HE.out], gb_alloc (gb_set (gb_refl _ _) (.inl rfl) _) _, by rw [HE.out]; exact HPS.out.fault.below ((Below.refl _ _).alloc (Nat.le_refl _) _)⟩
      rw [res_c rfl]
      go_simp
      rfl
    have HX2 : Hid (R = if Id.among ws t = true then (t, (r, false)) else (Id.tok0, (t :: r, true))) := Lib.hid (by rw [HX.out]; simp [hkd])
    clear HX hgn
    go_upto_region 1 with (fail)
    have hbl := (Below.refl w.heap.size w).alloc (Nat.le_refl _) (.cells #[.int .u8 0, .string ⟨#[]⟩, .int .i64 0, .int .i64 0] 154)
    have hq := Bk.new w 154 #[.int .u8 0, .string ⟨#[]⟩, .int .i64 0, .int .i64 0]
    have HBX1 := Lib.hid ((hbl.cell (p := ⟨pb, 0, none⟩) (World.block_lt_of_cell? w _ HBX.out)).trans HBX.out)
    have HLX1 := Lib.hid (HLX.out.below hbl)
    clear HBX HLX
    have hk1 := hk0.below hbl hk0.lt
    have hr1 := hr.below hbl
    have hP1 := HPS.out.below hbl
    have hg1 := gb_below hbl (some b)
    clear hk0 hr HPS hbl c0 c1 f0 f1 t0 t1 t2 t3
    generalize (w.alloc (.cells #[.int .u8 0, .string ⟨#[]⟩, .int .i64 0, .int .i64 0] 154)) = w1 at *
    generalize htb : w.heap.size = tb at *
    have HTB := Lib.hid htb
    clear htb
    obtain ⟨⟨c0, c1⟩, f0, f1⟩ := hk1.k2
    obtain ⟨g', off', e, hcs⟩ := hr1 (by simp)
    injection e with e
    injection e with e1 e2
    subst e1 e2
    obtain ⟨t0, t1, t2, t3⟩ := hcs 0 (by simp)
    simp only [Nat.zero_mul, Nat.add_zero, List.getElem_cons_zero] at t0 t1 t2 t3
    clear hcs
    obtain ⟨tk, tt, tn, ta⟩ := t
    simp only at hkd t0 t1 t2 t3
    subst hkd
    go_wp2_with fail
    refine (pwords1_any pb A2 n2 c2 ws HN2.out hm2' ⟨1, tt, tn, ta⟩ _ HBX1.out HLX1.out).mono ?_
    rintro e w2 ⟨rfl, hb2⟩
    simp only
    have hg2 := gb_trans hg1 (gb_below hb2 (some b))
    have hq2 := hq.below hb2 hq.lt
    have hk2 := hk1.below hb2 hk1.lt
    have hr2 := hr1.below hb2
    have hP2 := hP1.below hb2
    clear hq hk1 hr1 hP1 hg1 c0 c1 f0 f1 t0 t1 t2 t3 hb2
    obtain ⟨⟨c0, c1⟩, f0, f1⟩ := hk2.k2
    obtain ⟨⟨q0, q1, q2, q3⟩, p0, p1, p2, p3⟩ := hq2.k4
    obtain ⟨g', off', e, hcs⟩ := hr2 (by simp)
    injection e with e
    injection e with e1 e2
    subst e1 e2
    obtain ⟨t0, t1, t2, t3⟩ := hcs 0 (by simp)
    simp only [Nat.zero_mul, Nat.add_zero, List.getElem_cons_zero] at t0 t1 t2 t3
    clear hcs
    obtain ⟨nm, hnm⟩ : ∃ nm, Id.among ws ⟨1, tt, tn, ta⟩ = nm := ⟨_, rfl⟩
    rw [hnm] at HX2 ⊢
    cases nm with
    | false =>
      have HE : Hid (R = (Id.tok0, (⟨1, tt, tn, ta⟩ :: r, true))) := Lib.hid (by rw [HX2.out]; simp)
      clear HX2 hnm
      go_wp2_with fail
      refine bodyPost_ret (v := Id.tok0.val) ?_ rfl ⟨by rw [HE.out], gb_set hg2 (.inl rfl) _, by rw [HE.out]; exact hP2.fault⟩
      rw [res_c rfl]
      go_simp
      rfl
    | true =>
      have HE : Hid (R = (⟨1, tt, tn, ta⟩, (r, false))) := Lib.hid (by rw [HX2.out]; simp)
      have i1 : (1 : Int) ≤ (m : Int) + 1 := by omega
      have i2 : (m : Int) + 1 ≤ (c : Int) := by omega
      have i3 : 1 ≤ m + 1 := by omega
      have i4 : m + 1 ≤ c := by omega
      clear HX2 hnm
      go_wp2_with fail
      go_region
      have htg : ∀ ad, some (⟨g, off, none⟩ : Addr) = some ad → ad.block ≠ tb := fun ad e => by injection e with e; subst e; show g ≠ tb; omega
      have hkf := (((hk2.far (p := ⟨tb, 0, none⟩) hbn (.int .u8 1)).far (p := ⟨tb, 1, none⟩) hbn (.string tt)).far (p := ⟨tb, 2, none⟩) hbn (.int .i64 tn)).far (p := ⟨tb, 3, none⟩) hbn (.int .i64 ta)
      have hrf := (((hr2.set' (j := 0) htg (.int .u8 1)).set' (j := 1) htg (.string tt)).set' (j := 2) htg (.int .i64 tn)).set' (j := 3) htg (.int .i64 ta)
      have htn : g ≠ tb := by omega
      have hty := ((((hP2.typ _ _ _ _ _ hk2).far (p := ⟨tb, 0, none⟩) htn (.int .u8 1)).far (p := ⟨tb, 1, none⟩) htn (.string tt)).far (p := ⟨tb, 2, none⟩) htn (.int .i64 tn)).far (p := ⟨tb, 3, none⟩) htn (.int .i64 ta)
      have hgf := gb_set (gb_set (gb_set (gb_set hg2 (p := ⟨tb, 0, none⟩) (.inr (by rw [HTB.out]; exact Nat.le_refl _)) (.int .u8 1)) (p := ⟨tb, 1, none⟩) (.inr (by rw [HTB.out]; exact Nat.le_refl _)) (.string tt)) (p := ⟨tb, 2, none⟩) (.inr (by rw [HTB.out]; exact Nat.le_refl _)) (.int .i64 tn)) (p := ⟨tb, 3, none⟩) (.inr (by rw [HTB.out]; exact Nat.le_refl _)) (.int .i64 ta)
      have hqf := (((hq2.set_ 0 (.int .u8 1)).set_ 1 (.string tt)).set_ 2 (.int .i64 tn)).set_ 3 (.int .i64 ta)
      clear c0 c1 f0 f1 q0 q1 q2 q3 p0 p1 p2 p3 t0 t1 t2 t3 hk2 hr2 hq2 hg2
      generalize ((((w2.setCell ⟨tb, 0, none⟩ (.int .u8 1)).setCell ⟨tb, 1, none⟩ (.string tt)).setCell ⟨tb, 2, none⟩ (.int .i64 tn)).setCell ⟨tb, 3, none⟩ (.int .i64 ta)) = w3 at *
      have hqg := fun (o : Nat) (u : Value) => hqf.far (p := ⟨b, o, none⟩) (Ne.symm hbn) u
      by_cases hc1 : c = 1
      · rw [if_pos hc1]
        obtain ⟨⟨q0, q1, q2, q3⟩, _⟩ := (hqg 0 (.slice (some ⟨g, off, none⟩) m (c - 1))).k4
        have hPf := Id.Ps.next hkf hrf HM.out hne hty hc2 hc (off' := off) (c' := c - 1) (.inr ⟨by omega, by omega⟩)
        have hgg := gb_set hgf (p := ⟨b, 0, none⟩) (.inl rfl) (.slice (some ⟨g, off, none⟩) m (c - 1))
        generalize (w3.setCell ⟨b, 0, none⟩ (.slice (some ⟨g, off, none⟩) m (c - 1))) = w4 at *
        go_wp2_with fail
        refine bodyPost_ret (v := Tk.Tok.val ⟨1, tt, tn, ta⟩) ?_ rfl ⟨by rw [HE.out], gb_drew hgg, by rw [HE.out]; exact hPf.below (Below.refl _ _).drew⟩
        rw [res_c rfl]
        go_simp
        rfl
      · rw [if_neg hc1]
        obtain ⟨⟨q0, q1, q2, q3⟩, _⟩ := (hqg 0 (.slice (some ⟨g, off + 4, none⟩) m (c - 1))).k4
        have hPf := Id.Ps.next hkf hrf HM.out hne hty hc2 hc (off' := off + 4) (c' := c - 1) (.inl ⟨rfl, rfl⟩)
        have hgg := gb_set hgf (p := ⟨b, 0, none⟩) (.inl rfl) (.slice (some ⟨g, off + 4, none⟩) m (c - 1))
        generalize (w3.setCell ⟨b, 0, none⟩ (.slice (some ⟨g, off + 4, none⟩) m (c - 1))) = w4 at *
        go_wp2_with fail
        refine bodyPost_ret (v := Tk.Tok.val ⟨1, tt, tn, ta⟩) ?_ rfl ⟨by rw [HE.out], gb_drew hgg, by rw [HE.out]; exact hPf.below (Below.refl _ _).drew⟩
        rw [res_c rfl]
        go_simp
        rfl
end Go.Proofs.YtmncppnpppdfkaaGreatDoor
set_option linter.unusedVariables false
set_option linter.unusedSimpArgs false
namespace Go.Proofs.YtmncppnpppdfkaaGreatDoor
open Go.RowKit
set_option maxRecDepth 100000 in
set_option maxHeartbeats 4000000 in
theorem pstep1_any (t : Tk.Tok) (w : World) :
    Calls Tryz.prog 168 #[t.val] w fun e w' => e = .returned (.bool true) ∧ Below w.heap.size w w' := by
  unfold Tk.Tok.val
  go_enter Tryz.func168, Tryz.ntmps168
  go_wp2_with fail
  go_ret
  exact ⟨rfl, (Below.refl _ _).alloc (Nat.le_refl _) _⟩
set_option maxRecDepth 100000 in
set_option maxHeartbeats 4000000 in
theorem pone_num (b : Nat) (s : Id.St) (w : World) (h : Id.Ps w b s) :
    Calls Tryz.prog 165 #[.pointer (some ⟨b, 0, none⟩), .int .u8 2, .func (.func 168) #[] #[]] w fun e w' => e = .returned (Id.one s 2 (fun _ => true)).1.val ∧ w.grownBy w' (some b) ∧ Id.Ps w' b (Id.one s 2 (fun _ => true)).2 := by
  have HPS := Lib.hid h
  obtain ⟨R, HR⟩ : ∃ R, Hid (Id.one s 2 (fun _ => true) = R) := ⟨_, Lib.hid rfl⟩
  rw [HR.out]
  obtain ⟨A, c, hk0, hr, hc, hc2, hne⟩ := h.lies
  obtain ⟨l, bad⟩ := s
  simp only at hk0 hr hc
  have hbw := hk0.lt
  have hbn : ¬ b = w.heap.size := by omega
  obtain ⟨⟨c0, c1⟩, f0, f1⟩ := hk0.k2
  go_enter Tryz.func165, Tryz.ntmps165
  cases bad
  case' true =>
    have HE : Hid (R = (Id.tok0, (l, true))) := Lib.hid (by rw [← HR.out]; cases l <;> rfl)
    go_wp2_with fail
    refine bodyPost_ret (v := Id.tok0.val) ?_ rfl ⟨by rw [HE.out], gb_alloc (gb_set (gb_refl _ _) (.inl rfl) _) _, by rw [HE.out]; exact HPS.out.fault.below ((Below.refl _ _).alloc (Nat.le_refl _) _)⟩
    rw [res_c rfl]
    go_simp
    rfl
  cases l with
  | nil =>
    have HE : Hid (R = (Id.tok0, ([], true))) := Lib.hid (by rw [← HR.out]; rfl)
    simp only [List.length_nil] at c0
    go_wp2_with fail
    refine bodyPost_ret (v := Id.tok0.val) ?_ rfl ⟨by rw [HE.out], gb_alloc (gb_set (gb_refl _ _) (.inl rfl) _) _, by rw [HE.out]; exact HPS.out.fault.below ((Below.refl _ _).alloc (Nat.le_refl _) _)⟩
    rw [res_c rfl]
    go_simp
    rfl
  | cons t r =>
    obtain ⟨g, off, rfl, hcs⟩ := hr (by simp)
    obtain ⟨t0, t1, t2, t3⟩ := hcs 0 (by simp)
    simp only [Nat.zero_mul, Nat.add_zero, List.getElem_cons_zero] at t0 t1 t2 t3
    have HX : Hid (R = if t.kind = 2 ∧ true = true then (t, (r, false)) else (Id.tok0, (t :: r, true))) := Lib.hid (by rw [← HR.out]; rfl)
    clear hcs HR h
    simp only [List.length_cons] at c0 hk0 hc
    obtain ⟨m, hm⟩ : ∃ m, m = r.length := ⟨_, rfl⟩
    rw [← hm] at c0 hc hk0
    have HM := Lib.hid hm
    have hm1 : ¬ (m : Int) + 1 = 0 := by omega
    have hm2 : (0 : Int) < (m : Int) + 1 := by omega
    have hm3 : ((m : Int) + 1 == 0) = false := by rw [beq_eq_false_iff_ne]; omega
    have hgl : g < w.heap.size := World.block_lt_of_cell? w _ t0
    have hgn : ¬ g = w.heap.size := by omega
    clear hm
    by_cases hkd : t.kind = 2
    case' neg =>
      have tkd : ((t.kind : Int) != 2) = true := by rw [bne_iff_ne]; omega
      have HE : Hid (R = (Id.tok0, (t :: r, true))) := Lib.hid (by rw [HX.out, if_neg (fun h => hkd h.1)])
      clear hkd
      go_wp2_with fail
      refine bodyPost_ret (v := Id.tok0.val) ?_ rfl ⟨by rw [HE.out], gb_alloc (gb_set (gb_refl _ _) (.inl rfl) _) _, by rw [HE.out]; exact HPS.out.fault.below ((Below.refl _ _).alloc (Nat.le_refl _) _)⟩
      rw [res_c rfl]
      go_simp
      rfl
    have HX2 : Hid (R = if true = true then (t, (r, false)) else (Id.tok0, (t :: r, true))) := Lib.hid (by rw [HX.out]; simp [hkd])
    clear HX hgn
    go_upto_region 1 with (fail)
    have hbl := (Below.refl w.heap.size w).alloc (Nat.le_refl _) (.cells #[.int .u8 0, .string ⟨#[]⟩, .int .i64 0, .int .i64 0] 154)
    have hq := Bk.new w 154 #[.int .u8 0, .string ⟨#[]⟩, .int .i64 0, .int .i64 0]
    have hk1 := hk0.below hbl hk0.lt
    have hr1 := hr.below hbl
    have hP1 := HPS.out.below hbl
    have hg1 := gb_below hbl (some b)
    clear hk0 hr HPS hbl c0 c1 f0 f1 t0 t1 t2 t3
    generalize (w.alloc (.cells #[.int .u8 0, .string ⟨#[]⟩, .int .i64 0, .int .i64 0] 154)) = w1 at *
    generalize htb : w.heap.size = tb at *
    have HTB := Lib.hid htb
    clear htb
    obtain ⟨⟨c0, c1⟩, f0, f1⟩ := hk1.k2
    obtain ⟨g', off', e, hcs⟩ := hr1 (by simp)
    injection e with e
    injection e with e1 e2
    subst e1 e2
    obtain ⟨t0, t1, t2, t3⟩ := hcs 0 (by simp)
    simp only [Nat.zero_mul, Nat.add_zero, List.getElem_cons_zero] at t0 t1 t2 t3
    clear hcs
    obtain ⟨tk, tt, tn, ta⟩ := t
    simp only at hkd t0 t1 t2 t3
    subst hkd
    go_wp2_with fail
    refine (pstep1_any ⟨2, tt, tn, ta⟩ _).mono ?_
    rintro e w2 ⟨rfl, hb2⟩
    simp only
    have hg2 := gb_trans hg1 (gb_below hb2 (some b))
    have hq2 := hq.below hb2 hq.lt
    have hk2 := hk1.below hb2 hk1.lt
    have hr2 := hr1.below hb2
    have hP2 := hP1.below hb2
    clear hq hk1 hr1 hP1 hg1 c0 c1 f0 f1 t0 t1 t2 t3 hb2
    obtain ⟨⟨c0, c1⟩, f0, f1⟩ := hk2.k2
    obtain ⟨⟨q0, q1, q2, q3⟩, p0, p1, p2, p3⟩ := hq2.k4
    obtain ⟨g', off', e, hcs⟩ := hr2 (by simp)
    injection e with e
    injection e with e1 e2
    subst e1 e2
    obtain ⟨t0, t1, t2, t3⟩ := hcs 0 (by simp)
    simp only [Nat.zero_mul, Nat.add_zero, List.getElem_cons_zero] at t0 t1 t2 t3
    clear hcs
    have HE : Hid (R = (⟨2, tt, tn, ta⟩, (r, false))) := Lib.hid (by rw [HX2.out]; simp)
    have i1 : (1 : Int) ≤ (m : Int) + 1 := by omega
    have i2 : (m : Int) + 1 ≤ (c : Int) := by omega
    have i3 : 1 ≤ m + 1 := by omega
    have i4 : m + 1 ≤ c := by omega
    clear HX2
    go_wp2_with fail
    go_region
    have htg : ∀ ad, some (⟨g, off, none⟩ : Addr) = some ad → ad.block ≠ tb := fun ad e => by injection e with e; subst e; show g ≠ tb; omega
    have hkf := (((hk2.far (p := ⟨tb, 0, none⟩) hbn (.int .u8 2)).far (p := ⟨tb, 1, none⟩) hbn (.string tt)).far (p := ⟨tb, 2, none⟩) hbn (.int .i64 tn)).far (p := ⟨tb, 3, none⟩) hbn (.int .i64 ta)
    have hrf := (((hr2.set' (j := 0) htg (.int .u8 2)).set' (j := 1) htg (.string tt)).set' (j := 2) htg (.int .i64 tn)).set' (j := 3) htg (.int .i64 ta)
    have htn : g ≠ tb := by omega
    have hty := ((((hP2.typ _ _ _ _ _ hk2).far (p := ⟨tb, 0, none⟩) htn (.int .u8 2)).far (p := ⟨tb, 1, none⟩) htn (.string tt)).far (p := ⟨tb, 2, none⟩) htn (.int .i64 tn)).far (p := ⟨tb, 3, none⟩) htn (.int .i64 ta)
    have hgf := gb_set (gb_set (gb_set (gb_set hg2 (p := ⟨tb, 0, none⟩) (.inr (by rw [HTB.out]; exact Nat.le_refl _)) (.int .u8 2)) (p := ⟨tb, 1, none⟩) (.inr (by rw [HTB.out]; exact Nat.le_refl _)) (.string tt)) (p := ⟨tb, 2, none⟩) (.inr (by rw [HTB.out]; exact Nat.le_refl _)) (.int .i64 tn)) (p := ⟨tb, 3, none⟩) (.inr (by rw [HTB.out]; exact Nat.le_refl _)) (.int .i64 ta)
    have hqf := (((hq2.set_ 0 (.int .u8 2)).set_ 1 (.string tt)).set_ 2 (.int .i64 tn)).set_ 3 (.int .i64 ta)
    clear c0 c1 f0 f1 q0 q1 q2 q3 p0 p1 p2 p3 t0 t1 t2 t3 hk2 hr2 hq2 hg2
    generalize ((((w2.setCell ⟨tb, 0, none⟩ (.int .u8 2)).setCell ⟨tb, 1, none⟩ (.string tt)).setCell ⟨tb, 2, none⟩ (.int .i64 tn)).setCell ⟨tb, 3, none⟩ (.int .i64 ta)) = w3 at *
    have hqg := fun (o : Nat) (u : Value) => hqf.far (p := ⟨b, o, none⟩) (Ne.symm hbn) u
    by_cases hc1 : c = 1
    · rw [if_pos hc1]
      obtain ⟨⟨q0, q1, q2, q3⟩, _⟩ := (hqg 0 (.slice (some ⟨g, off, none⟩) m (c - 1))).k4
      have hPf := Id.Ps.next hkf hrf HM.out hne hty hc2 hc (off' := off) (c' := c - 1) (.inr ⟨by omega, by omega⟩)
      have hgg := gb_set hgf (p := ⟨b, 0, none⟩) (.inl rfl) (.slice (some ⟨g, off, none⟩) m (c - 1))
      generalize (w3.setCell ⟨b, 0, none⟩ (.slice (some ⟨g, off, none⟩) m (c - 1))) = w4 at *
      go_wp2_with fail
      refine bodyPost_ret (v := Tk.Tok.val ⟨2, tt, tn, ta⟩) ?_ rfl ⟨by rw [HE.out], gb_drew hgg, by rw [HE.out]; exact hPf.below (Below.refl _ _).drew⟩
      rw [res_c rfl]
      go_simp
      rfl
    · rw [if_neg hc1]
      obtain ⟨⟨q0, q1, q2, q3⟩, _⟩ := (hqg 0 (.slice (some ⟨g, off + 4, none⟩) m (c - 1))).k4
      have hPf := Id.Ps.next hkf hrf HM.out hne hty hc2 hc (off' := off + 4) (c' := c - 1) (.inl ⟨rfl, rfl⟩)
      have hgg := gb_set hgf (p := ⟨b, 0, none⟩) (.inl rfl) (.slice (some ⟨g, off + 4, none⟩) m (c - 1))
      generalize (w3.setCell ⟨b, 0, none⟩ (.slice (some ⟨g, off + 4, none⟩) m (c - 1))) = w4 at *
      go_wp2_with fail
      refine bodyPost_ret (v := Tk.Tok.val ⟨2, tt, tn, ta⟩) ?_ rfl ⟨by rw [HE.out], gb_drew hgg, by rw [HE.out]; exact hPf.below (Below.refl _ _).drew⟩
      rw [res_c rfl]
      go_simp
      rfl
end Go.Proofs.YtmncppnpppdfkaaGreatDoor
set_option linter.unusedVariables false
set_option linter.unusedSimpArgs false
namespace Go.Proofs.YtmncppnpppdfkaaGreatDoor
open Go.RowKit
def Id.words (ws : List ByteArray) (s : Id.St) : ByteArray × Id.St := ((Id.one s 1 (Id.among ws)).1.text, (Id.one s 1 (Id.among ws)).2)
set_option maxRecDepth 100000 in
set_option maxHeartbeats 4000000 in
theorem pwords_any (A : Option Addr) (n c : Nat) (ws : List ByteArray) (hn : ws.length = n) (hm : n ≤ 1000) (b : Nat) (s : Id.St) (w : World) (hl : Lie w A (ws.flatMap fun x => [.string x])) (h : Id.Ps w b s) :
    Calls Tryz.prog 111 #[.pointer (some ⟨b, 0, none⟩), .slice A n c] w fun e w' => e = .returned (.string (Id.words ws s).1) ∧ w.grownBy w' (some b) ∧ Id.Ps w' b (Id.words ws s).2 := by
  unfold Id.words
  obtain ⟨R, HR⟩ : ∃ R, Hid (Id.one s 1 (Id.among ws) = R) := ⟨_, Lib.hid rfl⟩
  rw [HR.out]
  obtain ⟨⟨tk, tt, tn, ta⟩, s2⟩ := R
  have hbl := (Below.refl w.heap.size w).alloc (Nat.le_refl _) (.cells #[.slice A n c] 70)
  have hq := (Bk.new w 70 #[.slice A n c]).cell 0
  go_enter Tryz.func111, Tryz.ntmps111
  go_wp2_with fail
  refine (pone_words w.heap.size A n c ws hn hm b s _ hq (hl.below hbl) (h.below hbl)).mono ?_
  rintro e w1 ⟨rfl, hg, hp⟩
  rw [HR.out] at hp ⊢
  simp only [Tk.Tok.val] at hp ⊢
  have hfl := field_tok
  go_wp2_with fail
  go_ret
  exact ⟨rfl, gb_trans (gb_below hbl _) hg, hp⟩
end Go.Proofs.YtmncppnpppdfkaaGreatDoor
