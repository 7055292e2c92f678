/- A range over a function whose round lays its element into a new block; the frame of a round found by the walk itself. No condition. -/
import Derived.Test.YtdjccepchleacaaRange
import Derived.Test.YtdjccepchleacaaBlk
set_option linter.unusedVariables false
namespace Go.Proofs.Ytdjccepchleacaa
open Go.RowKit Go.Shelf
theorem bk_kept {W W' : World} {row : Option Nat} {g : Nat} {t : TypeId} {cs : Array Value} (h : Bk W g t cs) (hg : W.grownBy W' row) (hrow : ∀ r, row = some r → ∃ o : Obj, W.heap[r]? = some o ∧ o.isCells = false) : Bk W' g t cs :=
  (grownBy_keeps_cells hg hrow h rfl).trans h
theorem bk_taken {W : World} {D g : Nat} {ds : Option (List Deferred)} {t : TypeId} {cs : Array Value} (h : Bk W g t cs) (hK : W.heap[D]? = some (.deferred ds)) : Bk (W.putObj D (.deferred none)) g t cs :=
  bk_kept h (grownBy_putObj' W D (.deferred none)) (fun r e => by cases e; exact ⟨_, hK, rfl⟩)
theorem range_ownX {F : Fence} {n : Nat} {P : Program} {α : Type} {g : Operand} {ps : Array Tmp} {assign body : Code} {Q : Exit → Act → World → Prop} {a : Act} {w : World}
    (hro : F.round = none) (h1 : 1 ≤ n) {gf : Nat} {lb : Array Value} (hg : a.eval g = .func (.func gf) #[] lb) (hFg : F.fn gf) (eg : ∀ args w, (callFunc gf args).run P w = .ok (.enter gf args) w)
    {encs : α → Array Value} {Kp : World → World → Prop} {S Sp : List α → Prop} {N : Nat} {w0 : World} (hseq : SeqStopsK F (n - 1) P gf lb encs Kp S Sp N w0)
    (hKt : ∀ {A B C : World}, Kp A B → Kp B C → Kp A C) (hKb : ∀ (W : World) (l : Nat) (o o' : Obj), w.heap.size ≤ l → W.heap[l]? = some o → o.isCells = false → o.isWalk = false → Kp W (W.putObj l o')) (hb0 : Below w0.heap.size w0 w) (hps : ∀ x, (encs x).size = ps.size)
    (T : TypeId) (cells : α → Array Value) (hKa : ∀ (W : World) (o : Obj), w.heap.size ≤ W.heap.size → Kp W (W.alloc o))
    (I : List α → World → Prop) (Ix : Code → List α → World → Prop) (hI : OwnFrom w.heap.size I) (hIx : ∀ c, OwnFrom w.heap.size (Ix c)) (hIz : ∀ pre W, I pre W → w.heap.size ≤ W.heap.size) (h0 : I [] w)
    (hab : ∃ a₁ : α → Nat → Act,
      (∀ (l : Nat) (x : α) (b : Nat) (W : World) (K : Act → World → Prop), b = W.heap.size → K (a₁ x b) (W.alloc (.cells (cells x) T)) →
        assign.wpIn (F.inRound l) (n - 1 - 1) P (Exit.then K (fun _ _ _ => False)) { tmps := (ps.zip (encs x)).foldl (fun t (p, v) => t.setIfInBounds p v) a.tmps, defers := [] } W) ∧
      (∀ (l : Nat) (pre : List α) (x : α) (b : Nat) (W : World), I pre W → Bk W b T (cells x) → w.heap.size ≤ b → pre.length < N → body.wpIn (F.inRound l) (n - 1 - 1) P (ownPostG w.heap.size Kp I Ix (pre ++ [x]) W) (a₁ x b) W))
    (hdone : ∀ (D : Nat) (xs : List α) (W : World), w.heap.size ≤ D → S xs → I xs W → W.heap[D]? = some (.deferred (some [])) → Q .normal { a with defers := { target := .collected D, args := #[] } :: a.defers } W)
    (hstop : ∀ (D : Nat) (c : Code) (pre : List α) (W : World), w.heap.size ≤ D → Sp pre → Ix c pre W → W.heap[D]? = some (.deferred (some [])) → c.wpIn F n P Q { a with defers := { target := .collected D, args := #[] } :: a.defers } W) :
    (Code.rangeFunc g ps assign body).wpIn F n P Q a w := by
  obtain ⟨a₁, h2, h3⟩ := hab
  refine wpIn_rangeFunc_ownH hro h1 hg hFg eg hseq hKt hKb hb0 hps I Ix hI hIx h0 (fun x a' W => ∃ b, w.heap.size ≤ b ∧ a' = a₁ x b ∧ Bk W b T (cells x))
    (fun x a' _ A B row hs hg hr => by
      obtain ⟨b, e1, e2, e3⟩ := hs
      exact ⟨b, e1, e2, bk_kept e3 hg (fun r e => (hr r e).2)⟩)
    (fun l pre x W K hi hK => h2 l x W.heap.size W K rfl (hK _ _ ((KeepsOthers.alloc W _).from _) (hKa W _ (hIz _ _ hi)) (hI.alloc _ hi) ⟨W.heap.size, hIz _ _ hi, rfl, Bk.new W T (cells x)⟩))
    (fun l pre x a' W _ _ hi ha hl => by
      obtain ⟨b, e1, e2, e3⟩ := ha
      subst e2
      exact h3 l pre x b W hi e3 e1 hl) hdone hstop
end Go.Proofs.Ytdjccepchleacaa
