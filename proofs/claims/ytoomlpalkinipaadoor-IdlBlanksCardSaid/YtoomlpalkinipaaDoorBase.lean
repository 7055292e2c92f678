/- Words that every walk of this seat leans on: 'nothing that lay there has changed', regions that draw their order over such worlds, one element appended to a row of the call's own. No condition. -/
import Derived.Test.YtoomlpalkinipaaDoorRows
import Derived.WalkKit
import Derived.WalkSpells
import Derived.WalkLawsBesides
import Derived.BigQuiet
import Derived.Handy
import Derived.Deep.OwnRows
import Derived.Deep.LoopGhost
import Derived.Deep.DeepCutAuto
import Derived.Lib.Hide
import Derived.Lib.Strings
import Derived.Deep.AppendLies
import Derived.Lib.SmallJoins
import Derived.Maps.AppendAt
set_option linter.unusedVariables false
namespace Go.Proofs.YtoomlpalkinipaaDoor
open Go.RowKit Go.BigFrame

/-- What lay there lies there unchanged. -/
def Bl (W w' : World) : Prop := Below W.heap.size W w'
theorem Bl.refl (W : World) : Bl W W := Below.refl _ _
theorem bl_imp (W : World) (p : Prop) : (∀ w', Bl W w' → p) ↔ p := ⟨fun h => h W (Bl.refl W), fun h _ _ => h⟩
theorem Bl.trans {a b c : World} (h : Bl a b) (k : Below b.heap.size b c) : Bl a c := Below.trans h (k.mono h.size)
theorem Bl.drewN {a b : World} (h : Bl a b) (n : Nat) : Bl a (b.drewN n) := below_drewN h n
theorem bl_join {a b c : World} (h : Below a.heap.size a b) (k : Below b.heap.size b c) : Below a.heap.size a c := Below.trans h (k.mono h.size)
theorem calls_bl {P : Program} {f : FuncId} {args : Array Value} {W w' : World} {v : Value} (hb : Bl W w')
    (h : Calls P f args w' fun e w'' => e = .returned v ∧ Below w'.heap.size w' w'') : Calls P f args w' fun e w'' => e = .returned v ∧ Bl W w'' :=
  h.mono fun _ _ ⟨he, hk⟩ => ⟨he, hb.trans hk⟩
theorem calls_bl_draws {P : Program} {f : FuncId} {args : Array Value} {W w' : World} {v : Value} (hb : Bl W w')
    (h : Calls P f args w' fun e w'' => e = .returned v ∧ ∃ n, w'' = w'.drewN n) : Calls P f args w' fun e w'' => e = .returned v ∧ Bl W w'' :=
  h.mono fun _ _ ⟨he, n, hk⟩ => ⟨he, by rw [hk]; exact hb.drewN n⟩
theorem calls_bl_same {P : Program} {f : FuncId} {args : Array Value} {W w' : World} {v : Value} (hb : Bl W w')
    (h : Calls P f args w' fun e w'' => e = .returned v ∧ w' = w'') : Calls P f args w' fun e w'' => e = .returned v ∧ Bl W w'' :=
  h.mono fun _ _ ⟨he, hk⟩ => ⟨he, by rw [← hk]; exact hb⟩
/-- A region that draws its order, no operation of which reads memory, its calls leaving what lay there: one walk in the order of the text. -/
theorem wp_region_bl {P : Program} {id : Nat} {Q : Exit → Act → World → Prop} {a : Act} {w : World} {l : List Oper} (W : World) (hm : P.follows .mixedOrders = true) (hB : Region.lexB .any l.toArray = true)
    (hC : Bl W w) (h : wpQuiet P l.toArray (Bl W) (fun a' => ∀ w', Bl W w' → Q .normal a' w') l a) : (Code.region id l.toArray true).wp P Q a w :=
  wp_region_quiet (C := Bl W) hm hB (hC.drewN 1) (by simpa using h)

theorem ret_eq {a b : Value} (h : a = b) : Ending.returned a = Ending.returned b := by rw [h]

/-- One element appended to a row of the call's own. -/
theorem wpList_append_one {P : Program} {ops : Array Oper} {rest : List Oper} {o : Oper} {a : Act} {Q : Exit → Act → World → Prop} {w0 : World} (hgd : o.guard = none) (s y : Operand) (t : TypeId)
    (ho : o.op = .call { callee := .builtin .append, args := #[s, y], argTypes := #[t, t] })
    (base : Nat) (e : TypeId) (z : Value) (bytes : Nat) (ht : P.underlying t = some (.slice e)) (hi : (P.info? e).map (fun i => (i.zero, i.size, i.bytes)) = some (some z, 1, bytes)) (hzs : z.cells.size = 1)
    (v : Value) (n : Nat) (xs : List Value) (hs : a.eval s = v) (hown : w0.ownsRow base e 1 v n xs)
    (x : Value) (hx : a.eval y = .slice (some ⟨w0.heap.size, 0, none⟩) 1 1) (h1 : x.oneCell' = true)
    (h63 : n + 1 ≤ maxLen) (hbytes : (n + 1) * bytes ≤ 140737488355328) (hbase : base ≤ w0.heap.size)
    (h : ∀ v' w', w'.ownsRow base e 1 v' (n + 1) (xs ++ [x]) → Below base w0 w' → (w0.alloc (.cells #[x] e)).grownBy w' v.ownBlock → wpList P ops Q rest (a.put o.dst v') w') :
    wpList P ops Q (o :: rest) a (w0.alloc (.cells #[x] e)) := by
  obtain ⟨i, hi0, hz0, hz1, hz2⟩ := info_parts hi
  refine wpList_append_own _ hgd s y t ho base e i z 1 bytes ht hi0 hz0 hz1 hz2 hzs (by decide) v n xs hs (hown.alloc _) ⟨w0.heap.size, 0, none⟩ 1 1 [x] hx rfl (cell_one_new _ _ _) (by simpa using h1) h63 hbytes (by simp; omega) ?_
  intro v' w' hown' hg _
  exact h v' w' hown' (((Below.refl base w0).alloc hbase _).grown hg (by simp; omega) (fun k hk => (hown.lt k hk).1)) hg
end Go.Proofs.YtoomlpalkinipaaDoor
