/- The parser: schema's walk. The parser: whole, Parse, Type. Same sorts, records, services, sagas, schemas. (merged by merge.py: XIdlN XIdlO XIdlX). No condition but the ones the theorems state. -/
import Derived.Test.YtmncppnpppdfkaaGreatDoorPTIdlK2
import Derived.Test.YtmncppnpppdfkaaGreatDoorPTK0
import Derived.Test.YtmncppnpppdfkaaGreatDoorPTKT2
set_option linter.unusedVariables false
set_option linter.unusedSimpArgs false
namespace Go.Proofs.YtmncppnpppdfkaaGreatDoor
open Go.RowKit
end Go.Proofs.YtmncppnpppdfkaaGreatDoor
set_option linter.unusedVariables false
set_option linter.unusedSimpArgs false
namespace Go.Proofs.YtmncppnpppdfkaaGreatDoor
open Go.RowKit
theorem Tk.scan_len (d : Nat) (s : ByteArray) : ∀ (f k : Nat) (acc : List Tk.Tok), k ≤ s.size → acc.length ≤ k → (Tk.scan d s f k acc).1.length ≤ s.size
  | 0, k, acc, hk, ha => by unfold Tk.scan; exact Nat.le_trans ha hk
  | f + 1, k, acc, hk, ha => by
    unfold Tk.scan
    split
    · rename_i hlt
      split
      · simp
      · rename_i he
        have hok := Tk.oneAt_ok (d := d) (s := s) (k := k) hlt (by simpa using he)
        refine Tk.scan_len d s f _ _ (Tk.gapEnd_le false hok.2) ?_
        rw [List.length_append, List.length_singleton]
        have := Tk.gapEnd_ge false s (k + (Tk.oneAt d s k).1.text.size)
        omega
    · exact Nat.le_trans ha hk
theorem Tk.all_len (s : ByteArray) : (Tk.all s).1.length ≤ 65536 := by
  unfold Tk.all
  split
  · simp
  · rename_i h
    have := Tk.scan_len 3 s (s.size + 1) (Tk.gapEnd false s 0) [] (Tk.gapEnd_le false (by omega)) (by simp)
    omega
theorem Id.Ps.of_own {w : World} {base : Nat} {v : Value} {ls : List Tk.Tok} (h : w.ownsRow base 154 4 v ls.length (Tk.flat ls)) : Id.Ps (w.alloc (.cells #[v, .bool false] 152)) w.heap.size (ls, false) := by
  obtain ⟨A, c, hv, hr, hl⟩ := Tk.row_reads h
  have hbl := (Below.refl w.heap.size w).alloc (Nat.le_refl _) (.cells #[v, .bool false] 152)
  have hbk := Bk.new w 152 #[v, .bool false]
  subst hv
  have key : ls.length ≤ c ∧ c ≤ 9223372036854775807 ∧ (∀ ad, A = some ad → ad.block < w.heap.size) ∧ (∀ g off, A = some ⟨g, off, none⟩ → Id.Typed w g) := by
    rcases h.2 with ⟨e, _⟩ | ⟨g, cap, cur, e, hb, hg, hn, hc, _⟩
    · injection e with e1 e2 e3
      subst e1
      exact ⟨by omega, by omega, (fun ad e => by cases e), (fun g off e => by cases e)⟩
    · injection e with e1 e2 e3
      subst e1 e3
      unfold maxLen at hc
      exact ⟨hn, by omega, (fun ad e => by injection e with e; subst e; exact (Array.getElem?_eq_some_iff.1 hg).1), (fun g' off e => by injection e with e; injection e with e1 _; subst e1; exact ⟨_, _, hg⟩)⟩
  exact ⟨⟨A, c, hbk, hr.below hbl, key.1, key.2.1, fun ad e => by have := key.2.2.1 ad e; omega⟩, Id.typ_of hbk (fun g off e => (key.2.2.2 g off e).below hbl)⟩
theorem Tk.ReadT.only {w w' : World} {A : Option Addr} {ls : List Tk.Tok} {e : TypeId} (h : Tk.ReadT w A ls) (ho : Only e w w') (ht : ∀ g off, A = some ⟨g, off, none⟩ → Id.Typed w g) (he : 154 ≠ e) : Tk.ReadT w' A ls := fun h0 => by
  obtain ⟨g, off, e1, hc⟩ := h h0
  obtain ⟨cs, fr, hh⟩ := ht g off e1
  have kc : ∀ o, w'.cell? ⟨g, o, none⟩ = w.cell? ⟨g, o, none⟩ := fun o => World.cell?_of_block (a := ⟨g, o, none⟩) ((ho.typed hh he).trans hh.symm)
  exact ⟨g, off, e1, fun j hj => by rw [kc, kc, kc, kc]; exact hc j hj⟩
theorem Id.Typed.ne {w : World} {g b : Nat} {t : TypeId} {cs : Array Value} (h : Id.Typed w g) (hb : Bk w b t cs) (ht : 154 ≠ t) : ¬ g = b := by
  rintro rfl
  obtain ⟨cs', fr, hh⟩ := h
  unfold Bk at hb
  rw [hh] at hb
  injection hb with hb
  injection hb with _ h2
  exact ht h2
namespace Id
def whole {α : Type} (zero : α) (read : St → α × St) (s : ByteArray) : α × Nat × Nat :=
  if (Tk.all s).2.2 ≠ 0 then (zero, (Tk.all s).2.1, (Tk.all s).2.2) else
  match (read ((Tk.all s).1, false)).2.1 with
  | [] => if (read ((Tk.all s).1, false)).2.2 then (zero, s.size, 120) else ((read ((Tk.all s).1, false)).1, 0, 0)
  | t :: _ => (zero, t.at_, 120)
def Sch.zero : Sch := ⟨⟨#[]⟩, [], [], []⟩
def parse (s : ByteArray) : Sch × Nat × Nat := whole Sch.zero schema s
def type (s : ByteArray) : List Srt × Nat × Nat := whole [] sorts s
/-- A schema as it is handed on. -/
def SchV (w : World) (B : Option Nat) (v : Value) (x : Sch) : Prop := ∃ A1 n1 c1 A2 n2 c2 A3 n3 c3, v = .agg #[.string x.name, .slice A1 n1 c1, .slice A2 n2 c2, .slice A3 n3 c3] ∧ RecsR w B (.slice A1 n1 c1) x.records ∧ SvcsR w B (.slice A2 n2 c2) x.services ∧ SagsR w B (.slice A3 n3 c3) x.sagas
theorem FldE.below {B : Option Nat} {w w' : World} (h : Below w.heap.size w w') (cs : List Value) (x : Fld) (he : FldE B w cs x) : FldE B w' cs x := by
  obtain ⟨u, e, hs⟩ := he
  exact ⟨u, e, ERow.below hs h (fun _ _ h => h)⟩
theorem RecE.below {B : Option Nat} {w w' : World} (h : Below w.heap.size w w') (cs : List Value) (x : Rec) (he : RecE B w cs x) : RecE B w' cs x := by
  obtain ⟨u, e, hs⟩ := he
  exact ⟨u, e, ERow.below hs h (FldE.below h)⟩
theorem SvcE.below {B : Option Nat} {w w' : World} (h : Below w.heap.size w w') (cs : List Value) (x : Svc) (he : SvcE B w cs x) : SvcE B w' cs x := by
  obtain ⟨u, e, hs⟩ := he
  exact ⟨u, e, ERow.below hs h (fun _ _ h => h)⟩
theorem SagE.below {B : Option Nat} {w w' : World} (h : Below w.heap.size w w') (cs : List Value) (x : Sag) (he : SagE B w cs x) : SagE B w' cs x := by
  obtain ⟨u, e, hs⟩ := he
  exact ⟨u, e, ERow.below hs h (fun _ _ h => h)⟩
theorem SchV.below {B : Option Nat} {w w' : World} {v : Value} {x : Sch} (hb : Below w.heap.size w w') (h : SchV w B v x) : SchV w' B v x := by
  obtain ⟨A1, n1, c1, A2, n2, c2, A3, n3, c3, e, h1, h2, h3⟩ := h
  exact ⟨A1, n1, c1, A2, n2, c2, A3, n3, c3, e, ERow.below h1 hb (RecE.below hb), ERow.below h2 hb (SvcE.below hb), ERow.below h3 hb (SagE.below hb)⟩
theorem SchV.only {b : Nat} {w w' : World} {v : Value} {x : Sch} (h : SchV w (some b) v x) {e : TypeId} (ho : Only e w w') (he : e ∉ schT) : SchV w' (some b) v x := by
  have hk := ho.kp b he
  obtain ⟨A1, n1, c1, A2, n2, c2, A3, n3, c3, e, h1, h2, h3⟩ := h
  exact ⟨A1, n1, c1, A2, n2, c2, A3, n3, c3, e, h1.kp hk (Nat.le_refl _) (by decide) (by decide) (by decide), h2.kp hk (Nat.le_refl _) (by decide) (by decide), h3.kp hk (Nat.le_refl _) (by decide) (by decide)⟩
def wkB (B B' : Option Nat) : Prop := ∀ b', B' = some b' → ∃ b, B = some b ∧ b' ≤ b
theorem FldE.weak {B B' : Option Nat} {w : World} (h : wkB B B') (cs : List Value) (x : Fld) (he : FldE B w cs x) : FldE B' w cs x := by
  obtain ⟨u, e, hs⟩ := he
  exact ⟨u, e, ERow.mono hs (fun _ _ hr => hr.weak h) (fun _ _ h => h)⟩
theorem RecE.weak {B B' : Option Nat} {w : World} (h : wkB B B') (cs : List Value) (x : Rec) (he : RecE B w cs x) : RecE B' w cs x := by
  obtain ⟨u, e, hs⟩ := he
  exact ⟨u, e, ERow.mono hs (fun _ _ hr => hr.weak h) (FldE.weak h)⟩
theorem SvcE.weak {B B' : Option Nat} {w : World} (h : wkB B B') (cs : List Value) (x : Svc) (he : SvcE B w cs x) : SvcE B' w cs x := by
  obtain ⟨u, e, hs⟩ := he
  exact ⟨u, e, ERow.mono hs (fun _ _ hr => hr.weak h) (fun _ _ h => h)⟩
theorem SagE.weak {B B' : Option Nat} {w : World} (h : wkB B B') (cs : List Value) (x : Sag) (he : SagE B w cs x) : SagE B' w cs x := by
  obtain ⟨u, e, hs⟩ := he
  exact ⟨u, e, ERow.mono hs (fun _ _ hr => hr.weak h) (fun _ _ h => h)⟩
theorem SchV.weak {B B' : Option Nat} {w : World} {v : Value} {x : Sch} (hb : wkB B B') (h : SchV w B v x) : SchV w B' v x := by
  obtain ⟨A1, n1, c1, A2, n2, c2, A3, n3, c3, e, h1, h2, h3⟩ := h
  exact ⟨A1, n1, c1, A2, n2, c2, A3, n3, c3, e, ERow.mono h1 (fun _ _ hr => hr.weak hb) (RecE.weak hb), ERow.mono h2 (fun _ _ hr => hr.weak hb) (SvcE.weak hb), ERow.mono h3 (fun _ _ hr => hr.weak hb) (SagE.weak hb)⟩
theorem wk_le {b b' : Nat} (h : b' ≤ b) : wkB (some b) (some b') := fun _ e => ⟨b, rfl, by injection e with e; omega⟩
theorem wk_none (B : Option Nat) : wkB B none := fun _ e => by cases e
theorem SchV.zero (w : World) (b : Nat) : SchV w (some b) (.agg #[.string ⟨#[]⟩, .slice none 0 0, .slice none 0 0, .slice none 0 0]) Sch.zero := ⟨_, _, _, _, _, _, _, _, _, rfl, ERow.nil _ _ _ _ _, ERow.nil _ _ _ _ _, ERow.nil _ _ _ _ _⟩
end Id
end Go.Proofs.YtmncppnpppdfkaaGreatDoor
set_option linter.unusedVariables false
set_option linter.unusedSimpArgs false
namespace Go.Proofs.YtmncppnpppdfkaaGreatDoor
open Go.RowKit
namespace Id
end Id
end Go.Proofs.YtmncppnpppdfkaaGreatDoor
