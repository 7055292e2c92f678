/- The parser: sorts. The parser: field. The parser: arg, step, method. The parser: method. The parser: within, thrice (printed by gen_within.py). The parser: schema. (merged by merge.py: XIdlH XIdlI XIdlJ XIdlK XIdlL XIdlM). No condition but the ones the theorems state. -/
import Derived.Test.YtmncppnpppdfkaaDoorIdlK1
import Derived.Test.YtmncppnpppdfkaaDoorK0
import Derived.Deep.RegionHeld3
set_option linter.unusedVariables false
set_option linter.unusedSimpArgs false
namespace Go.Proofs.YtmncppnpppdfkaaDoor
open Go.RowKit
theorem Tk.KW.grown {w w' : World} {b : Nat} (h : Tk.KW w) (hg : w.grownBy w' (some b)) (hb : 0 < b) : Tk.KW w' :=
  ⟨Nat.lt_of_lt_of_le h.1 hg.size, fun j hj => (World.cell?_of_block (hg.block 0 h.1 (by intro e; injection e with e; omega))).trans (h.2 j hj)⟩
namespace Id
structure Srt where
  kind : Nat
  name : ByteArray
def Srt.cells (x : Srt) : List Value := [.int .u8 x.kind, .string x.name]
def SortE (w : World) (cs : List Value) (x : Srt) : Prop := cs = x.cells
def SortsR (w : World) (B : Option Nat) (v : Value) (l : List Srt) : Prop := ERow w B 38 2 SortE v l
def wList : ByteArray := ⟨#[108, 105, 115, 116]⟩
def wOpt : ByteArray := ⟨#[111, 112, 116]⟩
def ends (s : St) : Bool := match s.1 with
  | [] => false
  | t :: _ => (t.kind == 1) && !(endW t.text == 0)
def head (s : St) : ByteArray := match s.1 with
  | [] => ⟨#[]⟩
  | t :: _ => t.text
def sortsF : Nat → St → List Srt → List Srt × St
  | 0, s, acc => ([], s)
  | f + 1, s, acc => if s.2 then ([], s) else
    if is s wList then sortsF f (s.1.tail, s.2) (acc ++ [⟨5, ⟨#[]⟩⟩]) else
    if is s wOpt then sortsF f (s.1.tail, s.2) (acc ++ [⟨6, ⟨#[]⟩⟩]) else
    if ends s then (acc ++ [⟨endW (head s), ⟨#[]⟩⟩], (s.1.tail, s.2)) else
    (acc ++ [⟨7, (name s).1⟩], (name s).2)
def sorts (s : St) : List Srt × St := sortsF (s.1.length + 1) s []
theorem is_len {s : St} {x : ByteArray} (h : is s x = true) : s.1.tail.length + 1 = s.1.length := by
  obtain ⟨t, r, rfl⟩ := is_cons h
  rfl
end Id
theorem Id.info_sort : (Tryd.prog.info? 38).map (fun i => (i.zero, i.size, i.bytes)) = some (some (.agg #[.int .u8 0, .string ByteArray.empty]), 2, 24) := by kernel_rfl
end Go.Proofs.YtmncppnpppdfkaaDoor
set_option linter.unusedVariables false
set_option linter.unusedSimpArgs false
namespace Go.Proofs.YtmncppnpppdfkaaDoor
open Go.RowKit
namespace Id
structure Fld where
  name : ByteArray
  type : List Srt
def FldE (B : Option Nat) (w : World) (cs : List Value) (x : Fld) : Prop := ∃ u, cs = [.string x.name, u] ∧ SortsR w B u x.type
def FldsR (w : World) (B : Option Nat) (v : Value) (l : List Fld) : Prop := ERow w B 45 2 (FldE B) v l
def sColon : ByteArray := ⟨#[58]⟩
def sSemi : ByteArray := ⟨#[59]⟩
def field (s : St) : Fld × St := (⟨(name s).1, (sorts (want (name s).2 sColon)).1⟩, want (sorts (want (name s).2 sColon)).2 sSemi)
theorem one_le (s : St) (k : Nat) (p : Tk.Tok → Bool) : (one s k p).2.1.length ≤ s.1.length := by
  obtain ⟨l, bad⟩ := s
  unfold one
  split
  · rename_i h; injection h with h1 h2; subst h1
    split <;> simp
  · rename_i h; injection h with h1 h2; subst h1; simp
theorem name_le (s : St) : (name s).2.1.length ≤ s.1.length := one_le s _ _
theorem want_le (s : St) (x : ByteArray) : (want s x).1.length ≤ s.1.length := by
  unfold want; split <;> simp
theorem take_le (s : St) (x : ByteArray) : (take s x).2.1.length ≤ s.1.length := by
  unfold take; split <;> simp
theorem sortsF_le : ∀ (f : Nat) (s : St) (acc : List Srt), (sortsF f s acc).2.1.length ≤ s.1.length
  | 0, s, acc => Nat.le_refl _
  | f + 1, s, acc => by
    unfold sortsF
    split
    · exact Nat.le_refl _
    · split
      · exact Nat.le_trans (sortsF_le f _ _) (by simp)
      · split
        · exact Nat.le_trans (sortsF_le f _ _) (by simp)
        · split
          · simp
          · exact name_le s
theorem sorts_le (s : St) : (sorts s).2.1.length ≤ s.1.length := sortsF_le _ _ _
theorem field_le (s : St) : (field s).2.1.length ≤ s.1.length := Nat.le_trans (want_le _ _) (Nat.le_trans (sorts_le _) (Nat.le_trans (want_le _ _) (name_le _)))
end Id
end Go.Proofs.YtmncppnpppdfkaaDoor
set_option linter.unusedVariables false
set_option linter.unusedSimpArgs false
namespace Go.Proofs.YtmncppnpppdfkaaDoor
open Go.RowKit
namespace Id.PW
end Id.PW
/-- A block of the call's own, behind a call. -/
theorem Bk.call {w w' : World} {b g : Nat} {t : TypeId} {cs : Array Value} (h : Bk w g t cs) (hg : w.grownBy w' (some b)) (hb : b < g) : Bk w' g t cs := h.grown hg (by intro e; injection e with e; omega)
namespace Id
def sOpen : ByteArray := ⟨#[40]⟩
def sClose : ByteArray := ⟨#[41]⟩
def arg (s : St) : ByteArray × St := ((name (want s sOpen)).1, want (name (want s sOpen)).2 sClose)
theorem arg_le (s : St) : (arg s).2.1.length ≤ s.1.length := Nat.le_trans (want_le _ _) (Nat.le_trans (name_le _) (want_le _ _))
structure Stp where
  service : ByteArray
  method : ByteArray
  at_ : Int
def Stp.cells (x : Stp) : List Value := [.string x.service, .string x.method, .int .i64 x.at_]
def StpE (w : World) (cs : List Value) (x : Stp) : Prop := cs = x.cells
def wDo : ByteArray := ⟨#[100, 111]⟩
def sDot : ByteArray := ⟨#[46]⟩
def wAt : ByteArray := ⟨#[97, 116]⟩
def num (s : St) : Nat × St := ((one s 2 (fun _ => true)).1.num, (one s 2 (fun _ => true)).2)
def step (s : St) : Stp × St :=
  let a := name (want s wDo)
  let c := name (want a.2 sDot)
  let d := num (want c.2 wAt)
  (⟨a.1, c.1, d.1⟩, want d.2 sSemi)
theorem num_le (s : St) : (num s).2.1.length ≤ s.1.length := one_le s _ _
theorem step_le (s : St) : (step s).2.1.length ≤ s.1.length := Nat.le_trans (want_le _ _) (Nat.le_trans (num_le _) (Nat.le_trans (want_le _ _) (Nat.le_trans (name_le _) (Nat.le_trans (want_le _ _) (Nat.le_trans (name_le _) (want_le _ _))))))
end Id
theorem field_num (a b c d : Value) (w : World) : Sem.run Tryd.prog (Instr.field 96 (.agg #[a, b, c, d]) 2) w = .ok c w := by kernel_rfl
end Go.Proofs.YtmncppnpppdfkaaDoor
set_option linter.unusedVariables false
set_option linter.unusedSimpArgs false
namespace Go.Proofs.YtmncppnpppdfkaaDoor
open Go.RowKit
theorem lie_alloc (w : World) (t : TypeId) (cs : Array Value) (vs : List Value) (h : cs.toList = vs) : Lie (w.alloc (.cells cs t)) (some ⟨w.heap.size, 0, none⟩) vs := fun _ => ⟨_, _, rfl, fun j u hu => by
  rw [Nat.zero_add, (Bk.new w t cs).cell j, ← Array.getElem?_toList, h]
  exact hu⟩
namespace Id
structure Mth where
  name : ByteArray
  arg : ByteArray
  result : Nat
  effect : ByteArray
  undo : ByteArray
def Mth.cells (x : Mth) : List Value := [.string x.name, .string x.arg, .int .u8 x.result, .string x.effect, .string x.undo]
def MthE (w : World) (cs : List Value) (x : Mth) : Prop := cs = x.cells
def wGive : ByteArray := ⟨#[103, 105, 118, 101]⟩
def wTake : ByteArray := ⟨#[116, 97, 107, 101]⟩
def wNote : ByteArray := ⟨#[110, 111, 116, 101]⟩
def wInt : ByteArray := ⟨#[105, 110, 116]⟩
def wNone : ByteArray := ⟨#[110, 111, 110, 101]⟩
def wUndo : ByteArray := ⟨#[117, 110, 100, 111]⟩
def sArrow : ByteArray := ⟨#[45, 62]⟩
def method (s : St) : Mth × St :=
  let a := words [wGive, wTake, wNote] s
  let b := name a.2
  let c := arg b.2
  let d := words [wInt, wNone] (want c.2 sArrow)
  let t := take d.2 wUndo
  let u := if t.1 then name t.2 else (⟨#[]⟩, t.2)
  (⟨b.1, c.1, endW d.1, a.1, u.1⟩, want u.2 sSemi)
theorem words_le (ws : List ByteArray) (s : St) : (words ws s).2.1.length ≤ s.1.length := one_le s _ _
theorem method_le (s : St) : (method s).2.1.length ≤ s.1.length := by
  unfold method
  dsimp only
  have h1 := words_le [wGive, wTake, wNote] s
  generalize words [wGive, wTake, wNote] s = a at *
  have h2 := name_le a.2
  generalize name a.2 = b at *
  have h3 := arg_le b.2
  generalize arg b.2 = c at *
  have h4 := want_le c.2 sArrow
  generalize want c.2 sArrow = s4 at *
  have h5 := words_le [wInt, wNone] s4
  generalize words [wInt, wNone] s4 = d at *
  have h6 := take_le d.2 wUndo
  generalize take d.2 wUndo = t at *
  have h7 := name_le t.2
  refine Nat.le_trans (want_le _ _) ?_
  split
  · omega
  · simp only
    omega
end Id
end Go.Proofs.YtmncppnpppdfkaaDoor
set_option linter.unusedVariables false
set_option linter.unusedSimpArgs false
namespace Go.Proofs.YtmncppnpppdfkaaDoor
open Go.RowKit
namespace Id
def sLeft : ByteArray := ⟨#[123]⟩
def sRight : ByteArray := ⟨#[125]⟩
def withinF {α : Type} (read : St → α × St) : Nat → St → List α → List α × St
  | 0, s, acc => (acc, s)
  | f + 1, s, acc => if s.2 then (acc, s) else if is s sRight then (acc, (s.1.tail, s.2)) else withinF read f (read s).2 (if (read s).2.2 then acc else acc ++ [(read s).1])
def within {α : Type} (read : St → α × St) (s : St) : List α × St := withinF read ((want s sLeft).1.length + 2) (want s sLeft) []
theorem one_good {s : St} {k : Nat} {p : Tk.Tok → Bool} (h : (one s k p).2.2 = false) : s.2 = false ∧ (one s k p).2.1.length + 1 = s.1.length := by
  obtain ⟨l, bad⟩ := s
  cases bad
  · cases l with
    | nil => cases h
    | cons t r =>
      unfold one at h ⊢
      by_cases hc : t.kind = k ∧ p t = true
      · simp only [if_pos hc]; simp
      · simp only [if_neg hc] at h; cases h
  · cases l <;> cases h
theorem name_good {s : St} (h : (name s).2.2 = false) : s.2 = false ∧ (name s).2.1.length + 1 = s.1.length := one_good h
theorem want_good {s : St} {x : ByteArray} (h : (want s x).2 = false) : s.2 = false ∧ (want s x).1.length + 1 = s.1.length := by
  unfold want at h ⊢
  by_cases hi : is s x = true
  · obtain ⟨t, r, rfl⟩ := is_cons hi
    simp only [if_pos hi] at h ⊢
    simp
  · simp only [if_neg hi] at h; cases h
theorem sortsF_good : ∀ (f : Nat) (s : St) (acc : List Srt), s.1.length < f → (sortsF f s acc).2.2 = false → s.2 = false
  | 0, s, acc, hf, h => by omega
  | f + 1, s, acc, hf, h => by
    obtain ⟨l, bad⟩ := s
    cases bad
    · rfl
    · simp [sortsF] at h
theorem sorts_good {s : St} (h : (sorts s).2.2 = false) : s.2 = false := sortsF_good _ _ _ (Nat.lt_succ_self _) h
theorem field_good {s : St} (h : (field s).2.2 = false) : (field s).2.1.length < s.1.length := by
  have h1 := want_good h
  have h2 := sorts_good h1.1
  have h3 := want_good h2
  have h4 := name_good h3.1
  have h5 := sorts_le (want (name s).2 sColon)
  have e : (field s).2 = want (sorts (want (name s).2 sColon)).2 sSemi := rfl
  rw [e]
  omega
theorem step_good {s : St} (h : (step s).2.2 = false) : (step s).2.1.length < s.1.length := by
  have h1 := want_good (s := (num (want (name (want (name (want s wDo)).2 sDot)).2 wAt)).2) h
  have h2 := num_le (want (name (want (name (want s wDo)).2 sDot)).2 wAt)
  have h3 := want_le (name (want (name (want s wDo)).2 sDot)).2 wAt
  have h4 := name_le (want (name (want s wDo)).2 sDot)
  have h5 := want_le (name (want s wDo)).2 sDot
  have h6 := name_le (want s wDo)
  have h7 := want_le s wDo
  have e : (step s).2 = want (num (want (name (want (name (want s wDo)).2 sDot)).2 wAt)).2 sSemi := rfl
  rw [e]
  omega
theorem method_good {s : St} (h : (method s).2.2 = false) : (method s).2.1.length < s.1.length := by
  unfold method at h ⊢
  dsimp only at h ⊢
  have h1 := words_le [wGive, wTake, wNote] s
  generalize words [wGive, wTake, wNote] s = a at *
  have h2 := name_le a.2
  generalize name a.2 = b at *
  have h3 := arg_le b.2
  generalize arg b.2 = c at *
  have h4 := want_le c.2 sArrow
  generalize want c.2 sArrow = s4 at *
  have h5 := words_le [wInt, wNone] s4
  generalize words [wInt, wNone] s4 = d at *
  have h6 := take_le d.2 wUndo
  generalize take d.2 wUndo = t at *
  have h7 := name_le t.2
  have h8 := want_good h
  refine Nat.lt_of_lt_of_le (Nat.lt_of_succ_le (Nat.le_of_eq h8.2)) ?_
  split
  · omega
  · simp only
    omega
theorem withinF_le {α : Type} {read : St → α × St} (hr : ∀ s, (read s).2.1.length ≤ s.1.length) : ∀ (f : Nat) (s : St) (acc : List α), (withinF read f s acc).2.1.length ≤ s.1.length
  | 0, s, acc => Nat.le_refl _
  | f + 1, s, acc => by
    unfold withinF
    split
    · exact Nat.le_refl _
    · split
      · simp
      · exact Nat.le_trans (withinF_le hr f _ _) (hr s)
theorem within_le {α : Type} {read : St → α × St} (hr : ∀ s, (read s).2.1.length ≤ s.1.length) (s : St) : (within read s).2.1.length ≤ s.1.length := Nat.le_trans (withinF_le hr _ _ _) (want_le _ _)
theorem Srt.e_kp {base b : Nat} {T : List TypeId} {w w' : World} (h : Kp base T w w') (hb : base ≤ b) (ht : 38 ∈ T) {v : Value} {l : List Srt} (hs : SortsR w (some b) v l) : SortsR w' (some b) v l := ERow.kp hs h hb ht (fun _ _ h => h)
theorem FldE.kp {base b : Nat} {T : List TypeId} {w w' : World} (h : Kp base T w w') (hb : base ≤ b) (ht : 38 ∈ T) (cs : List Value) (x : Fld) (he : FldE (some b) w cs x) : FldE (some b) w' cs x := by
  obtain ⟨u, e, hs⟩ := he
  exact ⟨u, e, Srt.e_kp h hb ht hs⟩
theorem MthE.kp {w w' : World} (cs : List Value) (x : Mth) (he : MthE w cs x) : MthE w' cs x := he
theorem StpE.kp {w w' : World} (cs : List Value) (x : Stp) (he : StpE w cs x) : StpE w' cs x := he
end Id
theorem Id.info_field : (Tryd.prog.info? 45).map (fun i => (i.zero, i.size, i.bytes)) = some (some (.agg #[.string ByteArray.empty, .slice none 0 0]), 2, 40) := by kernel_rfl
theorem Id.info_method : (Tryd.prog.info? 70).map (fun i => (i.zero, i.size, i.bytes)) = some (some (.agg #[.string ByteArray.empty, .string ByteArray.empty, .int .u8 0, .string ByteArray.empty, .string ByteArray.empty]), 5, 72) := by kernel_rfl
theorem Id.info_step : (Tryd.prog.info? 72).map (fun i => (i.zero, i.size, i.bytes)) = some (some (.agg #[.string ByteArray.empty, .string ByteArray.empty, .int .i64 0]), 3, 40) := by kernel_rfl
end Go.Proofs.YtmncppnpppdfkaaDoor
set_option linter.unusedVariables false
set_option linter.unusedSimpArgs false
namespace Go.Proofs.YtmncppnpppdfkaaDoor
open Go.RowKit
namespace Id
structure Rec where
  name : ByteArray
  choice : Bool
  fields : List Fld
structure Svc where
  name : ByteArray
  methods : List Mth
structure Sag where
  name : ByteArray
  arg : ByteArray
  steps : List Stp
structure Sch where
  name : ByteArray
  records : List Rec
  services : List Svc
  sagas : List Sag
def RecE (B : Option Nat) (w : World) (cs : List Value) (x : Rec) : Prop := ∃ u, cs = [.string x.name, .bool x.choice, u] ∧ FldsR w B u x.fields
def SvcE (B : Option Nat) (w : World) (cs : List Value) (x : Svc) : Prop := ∃ u, cs = [.string x.name, u] ∧ ERow w B 70 5 MthE u x.methods
def SagE (B : Option Nat) (w : World) (cs : List Value) (x : Sag) : Prop := ∃ u, cs = [.string x.name, .string x.arg, u] ∧ ERow w B 72 3 StpE u x.steps
def RecsR (w : World) (B : Option Nat) (v : Value) (l : List Rec) : Prop := ERow w B 43 3 (RecE B) v l
def SvcsR (w : World) (B : Option Nat) (v : Value) (l : List Svc) : Prop := ERow w B 56 2 (SvcE B) v l
def SagsR (w : World) (B : Option Nat) (v : Value) (l : List Sag) : Prop := ERow w B 60 3 (SagE B) v l
def schT : List TypeId := [43, 45, 38, 56, 70, 60, 72]
def wModule : ByteArray := ⟨#[109, 111, 100, 117, 108, 101]⟩
def wRecord : ByteArray := ⟨#[114, 101, 99, 111, 114, 100]⟩
def wChoice : ByteArray := ⟨#[99, 104, 111, 105, 99, 101]⟩
def wService : ByteArray := ⟨#[115, 101, 114, 118, 105, 99, 101]⟩
def wSaga : ByteArray := ⟨#[115, 97, 103, 97]⟩
def decls : List ByteArray := [wRecord, wChoice, wService, wSaga]
def record (c : Bool) (s : St) : Rec × St := (⟨(name s).1, c, (within field (name s).2).1⟩, (within field (name s).2).2)
def service (s : St) : Svc × St := (⟨(name s).1, (within method (name s).2).1⟩, (within method (name s).2).2)
def saga (s : St) : Sag × St := (⟨(name s).1, (arg (name s).2).1, (within step (arg (name s).2).2).1⟩, (within step (arg (name s).2).2).2)
def schemaF : Nat → St → Sch → Sch × St
  | 0, s, x => (x, s)
  | f + 1, s, x => if s.2 = true ∨ s.1 = [] then (x, s) else
    if (words decls s).1.toList = [114, 101, 99, 111, 114, 100] then schemaF f (record false (words decls s).2).2 { x with records := x.records ++ [(record false (words decls s).2).1] } else
    if (words decls s).1.toList = [99, 104, 111, 105, 99, 101] then schemaF f (record true (words decls s).2).2 { x with records := x.records ++ [(record true (words decls s).2).1] } else
    if (words decls s).1.toList = [115, 101, 114, 118, 105, 99, 101] then schemaF f (service (words decls s).2).2 { x with services := x.services ++ [(service (words decls s).2).1] } else
    if (words decls s).1.toList = [115, 97, 103, 97] then schemaF f (saga (words decls s).2).2 { x with sagas := x.sagas ++ [(saga (words decls s).2).1] } else
    schemaF f (words decls s).2 x
def schema (s : St) : Sch × St :=
  let a := name (want s wModule)
  let s1 := want a.2 sSemi
  schemaF (s1.1.length + 2) s1 ⟨a.1, [], [], []⟩
theorem record_le (c : Bool) (s : St) : (record c s).2.1.length ≤ s.1.length := Nat.le_trans (within_le field_le _) (name_le s)
theorem service_le (s : St) : (service s).2.1.length ≤ s.1.length := Nat.le_trans (within_le method_le _) (name_le s)
theorem saga_le (s : St) : (saga s).2.1.length ≤ s.1.length := Nat.le_trans (within_le step_le _) (Nat.le_trans (arg_le _) (name_le s))
/-- The word told, or a fault. -/
theorem words_cases (ws : List ByteArray) (s : St) (h : s.2 = false) : ((words ws s).2.2 = false ∧ (words ws s).2.1.length + 1 = s.1.length) ∨ ((words ws s).2.2 = true ∧ (words ws s).1 = ⟨#[]⟩) := by
  obtain ⟨l, bad⟩ := s
  simp only at h
  subst h
  cases l with
  | nil => exact .inr ⟨rfl, rfl⟩
  | cons t r =>
    unfold words one
    by_cases hc : t.kind = 1 ∧ among ws t = true
    · simp only [if_pos hc]; simp
    · simp only [if_neg hc]; simp
theorem RecE.kp {base b : Nat} {T : List TypeId} {w w' : World} (h : Kp base T w w') (hb : base ≤ b) (h1 : 45 ∈ T) (h2 : 38 ∈ T) (cs : List Value) (x : Rec) (he : RecE (some b) w cs x) : RecE (some b) w' cs x := by
  obtain ⟨u, e, hs⟩ := he
  exact ⟨u, e, ERow.kp hs h hb h1 (FldE.kp h hb h2)⟩
theorem SvcE.kp {base b : Nat} {T : List TypeId} {w w' : World} (h : Kp base T w w') (hb : base ≤ b) (h1 : 70 ∈ T) (cs : List Value) (x : Svc) (he : SvcE (some b) w cs x) : SvcE (some b) w' cs x := by
  obtain ⟨u, e, hs⟩ := he
  exact ⟨u, e, ERow.kp hs h hb h1 MthE.kp⟩
theorem SagE.kp {base b : Nat} {T : List TypeId} {w w' : World} (h : Kp base T w w') (hb : base ≤ b) (h1 : 72 ∈ T) (cs : List Value) (x : Sag) (he : SagE (some b) w cs x) : SagE (some b) w' cs x := by
  obtain ⟨u, e, hs⟩ := he
  exact ⟨u, e, ERow.kp hs h hb h1 StpE.kp⟩
theorem RecsR.kp {base b : Nat} {T : List TypeId} {w w' : World} {v : Value} {l : List Rec} (hr : RecsR w (some b) v l) (h : Kp base T w w') (hb : base ≤ b) (h0 : 43 ∈ T) (h1 : 45 ∈ T) (h2 : 38 ∈ T) : RecsR w' (some b) v l := ERow.kp hr h hb h0 (RecE.kp h hb h1 h2)
theorem SvcsR.kp {base b : Nat} {T : List TypeId} {w w' : World} {v : Value} {l : List Svc} (hr : SvcsR w (some b) v l) (h : Kp base T w w') (hb : base ≤ b) (h0 : 56 ∈ T) (h1 : 70 ∈ T) : SvcsR w' (some b) v l := ERow.kp hr h hb h0 (SvcE.kp h hb h1)
theorem SagsR.kp {base b : Nat} {T : List TypeId} {w w' : World} {v : Value} {l : List Sag} (hr : SagsR w (some b) v l) (h : Kp base T w w') (hb : base ≤ b) (h0 : 60 ∈ T) (h1 : 72 ∈ T) : SagsR w' (some b) v l := ERow.kp hr h hb h0 (SagE.kp h hb h1)
theorem info_rec : (Tryd.prog.info? 43).map (fun i => (i.zero, i.size, i.bytes)) = some (some (.agg #[.string ByteArray.empty, .bool false, .slice none 0 0]), 3, 48) := by kernel_rfl
theorem info_svc : (Tryd.prog.info? 56).map (fun i => (i.zero, i.size, i.bytes)) = some (some (.agg #[.string ByteArray.empty, .slice none 0 0]), 2, 40) := by kernel_rfl
theorem info_sag : (Tryd.prog.info? 60).map (fun i => (i.zero, i.size, i.bytes)) = some (some (.agg #[.string ByteArray.empty, .string ByteArray.empty, .slice none 0 0]), 3, 56) := by kernel_rfl
/-- What has been read lies there. -/
def SchB (w : World) (g : Nat) (base : Nat) (x : Sch) : Prop := ∃ A1 n1 c1 A2 n2 c2 A3 n3 c3, Bk w g 26 #[.string x.name, .slice A1 n1 c1, .slice A2 n2 c2, .slice A3 n3 c3] ∧ RecsR w (some base) (.slice A1 n1 c1) x.records ∧ SvcsR w (some base) (.slice A2 n2 c2) x.services ∧ SagsR w (some base) (.slice A3 n3 c3) x.sagas
theorem SchB.kp {w w' : World} {g base : Nat} {x : Sch} (h : SchB w g base x) (hb : Bk w' g 26 = Bk w g 26) (hk : Kp base schT w w') : SchB w' g base x := by
  obtain ⟨A1, n1, c1, A2, n2, c2, A3, n3, c3, k, r1, r2, r3⟩ := h
  exact ⟨A1, n1, c1, A2, n2, c2, A3, n3, c3, by rw [hb]; exact k, r1.kp hk (Nat.le_refl _) (by decide) (by decide) (by decide), r2.kp hk (Nat.le_refl _) (by decide) (by decide), r3.kp hk (Nat.le_refl _) (by decide) (by decide)⟩
theorem SchB.call {w w' : World} {b g base : Nat} {x : Sch} (h : SchB w g base x) (hg : w.grownBy w' (some b)) (h1 : b < g) (h2 : b < base) : SchB w' g base x := by
  have hk : Kp base schT w w' := Kp.grown hg h2
  obtain ⟨A1, n1, c1, A2, n2, c2, A3, n3, c3, k, r1, r2, r3⟩ := h
  exact ⟨A1, n1, c1, A2, n2, c2, A3, n3, c3, k.call hg h1, r1.kp hk (Nat.le_refl _) (by decide) (by decide) (by decide), r2.kp hk (Nat.le_refl _) (by decide) (by decide), r3.kp hk (Nat.le_refl _) (by decide) (by decide)⟩
theorem SchB.below {w w' : World} {g base : Nat} {x : Sch} (h : SchB w g base x) (hb : Below w.heap.size w w') : SchB w' g base x := by
  have hk : Kp base schT w w' := Kp.below hb
  obtain ⟨A1, n1, c1, A2, n2, c2, A3, n3, c3, k, r1, r2, r3⟩ := h
  exact ⟨A1, n1, c1, A2, n2, c2, A3, n3, c3, k.below hb k.lt, r1.kp hk (Nat.le_refl _) (by decide) (by decide) (by decide), r2.kp hk (Nat.le_refl _) (by decide) (by decide), r3.kp hk (Nat.le_refl _) (by decide) (by decide)⟩
theorem SchB.rec {w : World} {g base : Nat} {x : Sch} {y : Rec} {A1 A2 A3 A7 : Option Addr} {n1 c1 n2 c2 n3 c3 n7 c7 : Nat} (hq : Bk w g 26 #[.string x.name, .slice A1 n1 c1, .slice A2 n2 c2, .slice A3 n3 c3]) (h1 : RecsR w (some base) (.slice A7 n7 c7) (x.records ++ [y])) (h2 : SvcsR w (some base) (.slice A2 n2 c2) x.services) (h3 : SagsR w (some base) (.slice A3 n3 c3) x.sagas) :
    SchB (w.setCell ⟨g, 1, none⟩ (.slice A7 n7 c7)) g base { x with records := x.records ++ [y] } := by
  have hk : Kp base schT w (w.setCell ⟨g, 1, none⟩ (.slice A7 n7 c7)) := (Only.set hq 1 _).kp base (by decide)
  exact ⟨A7, n7, c7, A2, n2, c2, A3, n3, c3, hq.set_ 1 _, h1.kp hk (Nat.le_refl _) (by decide) (by decide) (by decide), h2.kp hk (Nat.le_refl _) (by decide) (by decide), h3.kp hk (Nat.le_refl _) (by decide) (by decide)⟩
theorem SchB.svc {w : World} {g base : Nat} {x : Sch} {y : Svc} {A1 A2 A3 A7 : Option Addr} {n1 c1 n2 c2 n3 c3 n7 c7 : Nat} (hq : Bk w g 26 #[.string x.name, .slice A1 n1 c1, .slice A2 n2 c2, .slice A3 n3 c3]) (h1 : RecsR w (some base) (.slice A1 n1 c1) x.records) (h2 : SvcsR w (some base) (.slice A7 n7 c7) (x.services ++ [y])) (h3 : SagsR w (some base) (.slice A3 n3 c3) x.sagas) :
    SchB (w.setCell ⟨g, 2, none⟩ (.slice A7 n7 c7)) g base { x with services := x.services ++ [y] } := by
  have hk : Kp base schT w (w.setCell ⟨g, 2, none⟩ (.slice A7 n7 c7)) := (Only.set hq 2 _).kp base (by decide)
  exact ⟨A1, n1, c1, A7, n7, c7, A3, n3, c3, hq.set_ 2 _, h1.kp hk (Nat.le_refl _) (by decide) (by decide) (by decide), h2.kp hk (Nat.le_refl _) (by decide) (by decide), h3.kp hk (Nat.le_refl _) (by decide) (by decide)⟩
theorem SchB.sag {w : World} {g base : Nat} {x : Sch} {y : Sag} {A1 A2 A3 A7 : Option Addr} {n1 c1 n2 c2 n3 c3 n7 c7 : Nat} (hq : Bk w g 26 #[.string x.name, .slice A1 n1 c1, .slice A2 n2 c2, .slice A3 n3 c3]) (h1 : RecsR w (some base) (.slice A1 n1 c1) x.records) (h2 : SvcsR w (some base) (.slice A2 n2 c2) x.services) (h3 : SagsR w (some base) (.slice A7 n7 c7) (x.sagas ++ [y])) :
    SchB (w.setCell ⟨g, 3, none⟩ (.slice A7 n7 c7)) g base { x with sagas := x.sagas ++ [y] } := by
  have hk : Kp base schT w (w.setCell ⟨g, 3, none⟩ (.slice A7 n7 c7)) := (Only.set hq 3 _).kp base (by decide)
  exact ⟨A1, n1, c1, A2, n2, c2, A7, n7, c7, hq.set_ 3 _, h1.kp hk (Nat.le_refl _) (by decide) (by decide) (by decide), h2.kp hk (Nat.le_refl _) (by decide) (by decide), h3.kp hk (Nat.le_refl _) (by decide) (by decide)⟩
theorem empty_toList : (⟨#[]⟩ : ByteArray).toList = [] := by unfold ByteArray.toList ByteArray.toList.loop; rfl
end Id
