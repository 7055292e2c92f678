/- prints, plain: a schema's words and their text; what is read of it is the schema. No condition but the ones the theorems state. -/
import Derived.Test.YtmncppnpppdfkaaDoorPrnW
import Derived.Test.YtmncppnpppdfkaaDoorPrnBk
import Derived.Test.YtmncppnpppdfkaaDoorIdlLaw2
import Derived.Test.YtmncppnpppdfkaaDoorChkLaw
set_option linter.unusedVariables false
set_option linter.unusedSimpArgs false
namespace Go.Proofs.YtmncppnpppdfkaaDoor
namespace Prn
open Go.Proofs.YtmncppnpppdfkaaDoor.Id Go.Proofs.YtmncppnpppdfkaaDoor.Chk
/-! Their tokens. -/
def nT (w : ByteArray) : Tk.Tok := ⟨1, w, 0, 0⟩
def sT (w : ByteArray) : Tk.Tok := ⟨3, w, 0, 0⟩
def dT (n : Int) : Tk.Tok := ⟨2, numW n, n.toNat, 0⟩
def sortT (x : Srt) : Tk.Tok := nT (sortW x)
def fldT (f : Fld) : List Tk.Tok := nT f.name :: sT sColon :: (f.type.map sortT ++ [sT sSemi])
def recT (r : Rec) : List Tk.Tok := nT (if r.choice then wChoice else wRecord) :: nT r.name :: sT sLeft :: (r.fields.flatMap fldT ++ [sT sRight])
def undoT (m : Mth) : List Tk.Tok := if m.undo.toList.isEmpty then [] else [nT wUndo, nT m.undo]
def mthT (m : Mth) : List Tk.Tok := nT m.effect :: nT m.name :: sT sOpen :: nT m.arg :: sT sClose :: sT sArrow :: sortT ⟨m.result, ⟨#[]⟩⟩ :: (undoT m ++ [sT sSemi])
def svcT (v : Svc) : List Tk.Tok := nT wService :: nT v.name :: sT sLeft :: (v.methods.flatMap mthT ++ [sT sRight])
def stpT (p : Stp) : List Tk.Tok := [nT wDo, nT p.service, sT sDot, nT p.method, nT wAt, dT p.at_, sT sSemi]
def sagT (g : Sag) : List Tk.Tok := nT wSaga :: nT g.name :: sT sOpen :: nT g.arg :: sT sClose :: sT sLeft :: (g.steps.flatMap stpT ++ [sT sRight])
def schT (x : Sch) : List Tk.Tok := nT wModule :: nT x.name :: sT sSemi :: (x.records.flatMap recT ++ (x.services.flatMap svcT ++ x.sagas.flatMap sagT))
abbrev tx (l : List Tk.Tok) : List ByteArray := l.map (·.text)
theorem tx_app (a b : List Tk.Tok) : tx (a ++ b) = tx a ++ tx b := List.map_append
theorem tx_flat {α : Type} {f : α → List Tk.Tok} {g : α → List ByteArray} (h : ∀ a, tx (f a) = g a) (l : List α) : tx (l.flatMap f) = l.flatMap g := by
  induction l with
  | nil => rfl
  | cons a l ih => rw [List.flatMap_cons, List.flatMap_cons, tx_app, h, ih]
theorem tx_sorts (l : List Srt) : tx (l.map sortT) = l.map sortW := by
  induction l with
  | nil => rfl
  | cons a l ih => show _ :: tx (l.map sortT) = _ :: _; rw [ih]; rfl
theorem fld_tx (f : Fld) : tx (fldT f) = fldW f := by
  show f.name :: sColon :: tx (f.type.map sortT ++ [sT sSemi]) = _
  rw [tx_app, tx_sorts]
  rfl
theorem rec_tx (r : Rec) : tx (recT r) = recW r := by
  show _ :: r.name :: sLeft :: tx (r.fields.flatMap fldT ++ [sT sRight]) = _
  rw [tx_app, tx_flat fld_tx]
  rfl
theorem mth_tx (m : Mth) : tx (mthT m) = mthW m := by
  show m.effect :: m.name :: sOpen :: m.arg :: sClose :: sArrow :: _ :: tx (undoT m ++ [sT sSemi]) = _
  rw [tx_app]
  unfold undoT mthW undoW
  split <;> rfl
theorem svc_tx (v : Svc) : tx (svcT v) = svcW v := by
  show _ :: v.name :: sLeft :: tx (v.methods.flatMap mthT ++ [sT sRight]) = _
  rw [tx_app, tx_flat mth_tx]
  rfl
theorem sag_tx (g : Sag) : tx (sagT g) = sagW g := by
  show _ :: g.name :: sOpen :: g.arg :: sClose :: sLeft :: tx (g.steps.flatMap stpT ++ [sT sRight]) = _
  rw [tx_app, tx_flat (f := stpT) (g := stpW) (fun p => rfl)]
  rfl
theorem sch_tx (x : Sch) : tx (schT x) = schW x := by
  show _ :: x.name :: sSemi :: tx (x.records.flatMap recT ++ (x.services.flatMap svcT ++ x.sagas.flatMap sagT)) = _
  rw [tx_app, tx_app, tx_flat rec_tx, tx_flat svc_tx, tx_flat sag_tx]
  rfl
theorem join_tx (l : List Tk.Tok) : Tk.joinT l = jl (tx l) := by
  cases l with
  | nil => rfl
  | cons t l =>
    show _ ++ l.flatMap _ = _ ++ (tx l).flatMap _
    congr 1
    induction l with
    | nil => rfl
    | cons u l ih => rw [List.flatMap_cons]; show _ = (u.text :: tx l).flatMap _; rw [List.flatMap_cons, ih]
/-! Right tokens. -/
def Own (t : Tk.Tok) : Prop := (0 < t.text.size ∧ Tk.oneAt 3 t.text 0 = ({ t with at_ := 0 }, 0)) ∧ t.text.size ≤ 32
theorem own_name {w : ByteArray} (h : Tk.isName w = true) : Own (nT w) := by
  unfold Tk.isName at h
  simp only [Bool.and_eq_true, decide_eq_true_eq] at h
  obtain ⟨⟨⟨⟨h1, h2⟩, h3⟩, h4⟩, h5⟩ := h
  refine ⟨⟨h1, ?_⟩, h2⟩
  have hb : Tk.isInner (w[0]'(by omega)).toNat = true := by
    rw [Tk.byte_eq (by omega)] at h3
    unfold Tk.isInner
    rw [h3]
    rfl
  rw [Tk.runEnd_on (by omega) hb] at h5
  show Tk.oneAt 3 w 0 = (nT w, 0)
  unfold Tk.oneAt
  dsimp only
  rw [if_pos h3, h5, Tk.extract_self, if_neg (by omega)]
  rfl
theorem mem_kw {w : ByteArray} (h : Tk.isKw w = true) : w ∈ Tk.words := by
  unfold Tk.isKw at h
  obtain ⟨x, hx, e⟩ := List.any_eq_true.1 h
  have e2 : w = x := Tk.text_eq (by simpa using e)
  rw [e2]
  exact hx
theorem own_kw : ∀ w ∈ Tk.words, Own (nT w) := by
  intro w hw
  simp only [Tk.words, List.mem_cons, List.not_mem_nil, or_false] at hw
  rcases hw with rfl | rfl | rfl | rfl | rfl | rfl | rfl | rfl | rfl | rfl | rfl | rfl | rfl | rfl | rfl | rfl | rfl <;> exact ⟨⟨by decide, by kernel_rfl⟩, by decide⟩
theorem own_colon : Own (sT sColon) := ⟨⟨by decide, by kernel_rfl⟩, by decide⟩
theorem own_semi : Own (sT sSemi) := ⟨⟨by decide, by kernel_rfl⟩, by decide⟩
theorem own_left : Own (sT sLeft) := ⟨⟨by decide, by kernel_rfl⟩, by decide⟩
theorem own_right : Own (sT sRight) := ⟨⟨by decide, by kernel_rfl⟩, by decide⟩
theorem own_open : Own (sT sOpen) := ⟨⟨by decide, by kernel_rfl⟩, by decide⟩
theorem own_close : Own (sT sClose) := ⟨⟨by decide, by kernel_rfl⟩, by decide⟩
theorem own_dot : Own (sT sDot) := ⟨⟨by decide, by kernel_rfl⟩, by decide⟩
theorem own_arrow : Own (sT sArrow) := ⟨⟨by decide, by kernel_rfl⟩, by decide⟩
theorem num_text (n : Nat) (h : n < 10) : numW (n : Int) = ⟨#[UInt8.ofNat (48 + n)]⟩ := by
  unfold numW
  rw [Lib.itoa_nonneg, Lib.decDigits_one h]
theorem own_num {n : Int} (h0 : 0 ≤ n) (h4 : n < 4) : Own (dT n) := by
  have : n = ((0 : Nat) : Int) ∨ n = ((1 : Nat) : Int) ∨ n = ((2 : Nat) : Int) ∨ n = ((3 : Nat) : Int) := by omega
  rcases this with rfl | rfl | rfl | rfl <;> (unfold dT; rw [num_text _ (by decide)]; exact ⟨⟨by decide, by kernel_rfl⟩, by decide⟩)
/-! What a schema is of which there is a text. -/
def finP (x : Srt) : Bool := if x.kind = 1 ∨ x.kind = 2 ∨ x.kind = 3 ∨ x.kind = 4 then x.name.toList.isEmpty else if x.kind = 7 then Tk.isName x.name else false
def okP : List Srt → Bool
  | [] => false
  | [x] => finP x
  | x :: y :: l => mid x && okP (y :: l)
structure OkM (m : Mth) : Prop where
  ef : m.effect = wGive ∨ m.effect = wTake ∨ m.effect = wNote
  nm : Tk.isName m.name = true
  ar : Tk.isName m.arg = true
  re : m.result = 1 ∨ m.result = 3
  un : m.undo.toList.isEmpty = true ∨ Tk.isName m.undo = true
structure OkSt (p : Stp) : Prop where
  sv : Tk.isName p.service = true
  me : Tk.isName p.method = true
  lo : 0 ≤ p.at_
  hi : p.at_ < 4
structure Ok (x : Sch) : Prop where
  nm : Tk.isName x.name = true
  rn : ∀ r ∈ x.records, Tk.isName r.name = true
  rf : ∀ r ∈ x.records, ∀ f ∈ r.fields, Tk.isName f.name = true ∧ okP f.type = true
  vn : ∀ v ∈ x.services, Tk.isName v.name = true
  vm : ∀ v ∈ x.services, ∀ m ∈ v.methods, OkM m
  gn : ∀ g ∈ x.sagas, Tk.isName g.name = true ∧ Tk.isName g.arg = true
  gs : ∀ g ∈ x.sagas, ∀ p ∈ g.steps, OkSt p
theorem empty_of {w : ByteArray} (h : w.toList.isEmpty = true) : w = ⟨#[]⟩ := Tk.text_eq (by
  rw [List.isEmpty_iff.1 h]
  decide +kernel)
theorem finP_kind {x : Srt} (h : finP x = true) : (x = ⟨1, ⟨#[]⟩⟩ ∨ x = ⟨2, ⟨#[]⟩⟩ ∨ x = ⟨3, ⟨#[]⟩⟩ ∨ x = ⟨4, ⟨#[]⟩⟩) ∨ (x.kind = 7 ∧ Tk.isName x.name = true) := by
  obtain ⟨k, n⟩ := x
  unfold finP at h
  simp only at h ⊢
  split at h
  next hk =>
    rw [empty_of h]
    left
    rcases hk with rfl | rfl | rfl | rfl <;> simp
  next hk =>
    split at h
    next h7 => exact .inr ⟨h7, h⟩
    next => cases h
theorem mid_kind {x : Srt} (h : mid x = true) : x = ⟨5, ⟨#[]⟩⟩ ∨ x = ⟨6, ⟨#[]⟩⟩ := by
  obtain ⟨k, n⟩ := x
  unfold mid at h
  simp only [Bool.and_eq_true, Bool.or_eq_true, beq_iff_eq] at h
  rw [empty_of h.2]
  rcases h.1 with rfl | rfl <;> simp
theorem sortW_mem {x : Srt} (h : (x = ⟨1, ⟨#[]⟩⟩ ∨ x = ⟨2, ⟨#[]⟩⟩ ∨ x = ⟨3, ⟨#[]⟩⟩ ∨ x = ⟨4, ⟨#[]⟩⟩) ∨ (x = ⟨5, ⟨#[]⟩⟩ ∨ x = ⟨6, ⟨#[]⟩⟩)) : Own (sortT x) := by
  rcases h with (rfl | rfl | rfl | rfl) | (rfl | rfl) <;> exact ⟨⟨by decide, by kernel_rfl⟩, by decide⟩
theorem sortW_name {x : Srt} (h : x.kind = 7) : sortW x = x.name := by
  unfold sortW
  simp [h]
theorem own_sorts : ∀ {t : List Srt}, okP t = true → ∀ x ∈ t, Own (sortT x)
  | [], h, x, hx => by cases hx
  | [y], h, x, hx => by
    simp only [List.mem_singleton] at hx
    subst hx
    rcases finP_kind h with h1 | ⟨h7, hn⟩
    · exact sortW_mem (.inl h1)
    · unfold sortT
      rw [sortW_name h7]
      exact own_name hn
  | y :: z :: l, h, x, hx => by
    have h' : (mid y && okP (z :: l)) = true := h
    rw [Bool.and_eq_true] at h'
    rcases List.mem_cons.1 hx with rfl | hx
    · exact sortW_mem (.inr (mid_kind h'.1))
    · exact own_sorts h'.2 x hx
def Owns (l : List Tk.Tok) : Prop := ∀ t ∈ l, Own t
theorem owns_nil : Owns [] := fun t h => by cases h
theorem owns_cons {t : Tk.Tok} {l : List Tk.Tok} (h : Own t) (k : Owns l) : Owns (t :: l) := fun u hu => by
  rcases List.mem_cons.1 hu with rfl | hu
  · exact h
  · exact k u hu
theorem owns_app {a b : List Tk.Tok} (h : Owns a) (k : Owns b) : Owns (a ++ b) := fun u hu => (List.mem_append.1 hu).elim (h u) (k u)
theorem owns_flat {α : Type} {f : α → List Tk.Tok} {l : List α} (h : ∀ a ∈ l, Owns (f a)) : Owns (l.flatMap f) := fun u hu => by
  obtain ⟨a, ha, hu⟩ := List.mem_flatMap.1 hu
  exact h a ha u hu
theorem owns_fld {f : Fld} (h : Tk.isName f.name = true ∧ okP f.type = true) : Owns (fldT f) := owns_cons (own_name h.1) (owns_cons own_colon (owns_app (fun t ht => by
  obtain ⟨x, hx, rfl⟩ := List.mem_map.1 ht
  exact own_sorts h.2 x hx) (owns_cons own_semi owns_nil)))
theorem owns_mth {m : Mth} (h : OkM m) : Owns (mthT m) := by
  refine owns_cons ?_ (owns_cons (own_name h.nm) (owns_cons own_open (owns_cons (own_name h.ar) (owns_cons own_close (owns_cons own_arrow (owns_cons ?_ (owns_app ?_ (owns_cons own_semi owns_nil))))))))
  · rcases h.ef with e | e | e <;> (rw [e]; exact own_kw _ (mem_kw (by decide +kernel)))
  · rcases h.re with e | e <;> rw [e]
    · exact sortW_mem (.inl (.inl rfl))
    · exact sortW_mem (.inl (.inr (.inr (.inl rfl))))
  · unfold undoT
    split
    · exact owns_nil
    · next hu =>
      rcases h.un with e | e
      · exact absurd e hu
      · exact owns_cons (own_kw _ (mem_kw (by decide +kernel))) (owns_cons (own_name e) owns_nil)
theorem owns_stp {p : Stp} (h : OkSt p) : Owns (stpT p) := owns_cons (own_kw _ (mem_kw (by decide +kernel))) (owns_cons (own_name h.sv) (owns_cons own_dot (owns_cons (own_name h.me) (owns_cons (own_kw _ (mem_kw (by decide +kernel))) (owns_cons (own_num h.lo h.hi) (owns_cons own_semi owns_nil))))))
theorem owns_sch {x : Sch} (h : Ok x) : Owns (schT x) := by
  refine owns_cons (own_kw _ (mem_kw (by decide +kernel))) (owns_cons (own_name h.nm) (owns_cons own_semi (owns_app (owns_flat fun r hr => ?_) (owns_app (owns_flat fun v hv => ?_) (owns_flat fun g hg => ?_)))))
  · refine owns_cons ?_ (owns_cons (own_name (h.rn r hr)) (owns_cons own_left (owns_app (owns_flat fun f hf => owns_fld (h.rf r hr f hf)) (owns_cons own_right owns_nil))))
    split <;> exact own_kw _ (mem_kw (by decide +kernel))
  · exact owns_cons (own_kw _ (mem_kw (by decide +kernel))) (owns_cons (own_name (h.vn v hv)) (owns_cons own_left (owns_app (owns_flat fun m hm => owns_mth (h.vm v hv m hm)) (owns_cons own_right owns_nil))))
  · exact owns_cons (own_kw _ (mem_kw (by decide +kernel))) (owns_cons (own_name (h.gn g hg).1) (owns_cons own_open (owns_cons (own_name (h.gn g hg).2) (owns_cons own_close (owns_cons own_left (owns_app (owns_flat fun p hp => owns_stp (h.gs g hg p hp)) (owns_cons own_right owns_nil)))))))
theorem all_text {l : List Tk.Tok} (h : Owns l) (hs : (jn (tx l)).size ≤ 65536) : Tk.all (jn (tx l)) = (Tk.placed l 0, 0, 0) :=
  Tk.all_joinT (fun t ht => (h t ht).1) (by rw [jn_data, join_tx]) hs
theorem owns_size {l : List Tk.Tok} (h : Owns l) : ∀ u ∈ tx l, u.size ≤ 32 := fun u hu => by
  obtain ⟨t, ht, rfl⟩ := List.mem_map.1 hu
  exact (h t ht).2
/-! Reading. -/
theorem name_kw {w k : ByteArray} (h : Tk.isName w = true) (hk : k ∈ Tk.words) : (w.toList == k.toList) = false := by
  unfold Tk.isName at h
  simp only [Bool.and_eq_true, Bool.not_eq_true'] at h
  have h4 := h.1.2
  unfold Tk.isKw at h4
  rw [List.any_eq_false] at h4
  exact Bool.eq_false_iff.2 (h4 k hk)
theorem name_head {w : ByteArray} (h : Tk.isName w = true) {c : UInt8} (hc : Tk.isLetter c.toNat = false) : (w.toList == (⟨#[c]⟩ : ByteArray).toList) = false := by
  rw [beq_eq_false_iff_ne]
  intro e
  have e2 := Tk.text_eq e
  subst e2
  unfold Tk.isName at h
  simp only [Bool.and_eq_true] at h
  have h3 := h.1.1.2
  rw [show Tk.byte ⟨#[c]⟩ 0 = c.toNat from rfl, hc] at h3
  cases h3
theorem is_n (w k : ByteArray) (r : List Tk.Tok) : is (nT w :: r, false) k = (w.toList == k.toList) := by simp [is, nT]
theorem is_s (w k : ByteArray) (r : List Tk.Tok) : is (sT w :: r, false) k = (w.toList == k.toList) := by simp [is, sT]
theorem want_n (w : ByteArray) (r : List Tk.Tok) : want (nT w :: r, false) w = (r, false) := by simp [want, is_n]
theorem want_s (w : ByteArray) (r : List Tk.Tok) : want (sT w :: r, false) w = (r, false) := by simp [want, is_s]
theorem name_n {w : ByteArray} (h : Tk.isName w = true) (r : List Tk.Tok) : name (nT w :: r, false) = (w, (r, false)) := by
  unfold name one
  simp [nT, h]
theorem words_n {ws : List ByteArray} {w : ByteArray} (h : ws.any (fun x => w.toList == x.toList) = true) (r : List Tk.Tok) : words ws (nT w :: r, false) = (w, (r, false)) := by
  unfold words one among
  simp only [nT, h, and_self, if_true]
theorem num_n (n : Int) (r : List Tk.Tok) : num (dT n :: r, false) = (n.toNat, (r, false)) := by
  unfold num one
  simp [dT]
theorem endW_name {w : ByteArray} (h : Tk.isName w = true) : endW w = 0 := by
  have h1 := beq_eq_false_iff_ne.1 (name_kw h (k := ⟨#[110, 111, 110, 101]⟩) (mem_kw (by decide +kernel)))
  have h2 := beq_eq_false_iff_ne.1 (name_kw h (k := ⟨#[98, 111, 111, 108]⟩) (mem_kw (by decide +kernel)))
  have h3 := beq_eq_false_iff_ne.1 (name_kw h (k := ⟨#[105, 110, 116]⟩) (mem_kw (by decide +kernel)))
  have h4 := beq_eq_false_iff_ne.1 (name_kw h (k := ⟨#[116, 101, 120, 116]⟩) (mem_kw (by decide +kernel)))
  rw [show (⟨#[110, 111, 110, 101]⟩ : ByteArray).toList = [110, 111, 110, 101] by decide +kernel] at h1
  rw [show (⟨#[98, 111, 111, 108]⟩ : ByteArray).toList = [98, 111, 111, 108] by decide +kernel] at h2
  rw [show (⟨#[105, 110, 116]⟩ : ByteArray).toList = [105, 110, 116] by decide +kernel] at h3
  rw [show (⟨#[116, 101, 120, 116]⟩ : ByteArray).toList = [116, 101, 120, 116] by decide +kernel] at h4
  unfold endW
  rw [if_neg h1, if_neg h2, if_neg h3, if_neg h4]
theorem sorts_end {f : Nat} {w : ByteArray} {k : Nat} (h1 : (w.toList == wList.toList) = false) (h2 : (w.toList == wOpt.toList) = false) (h3 : endW w = k + 1) (r : List Tk.Tok) (acc : List Srt) : sortsF (f + 1) (nT w :: r, false) acc = (acc ++ [⟨k + 1, ⟨#[]⟩⟩], (r, false)) := by
  rw [sortsF]
  simp only [is_n, h1, h2, Bool.false_eq_true, if_false]
  rw [if_pos (by simp [ends, nT, h3])]
  simp [head, nT, h3]
theorem sortsF_ok : ∀ (t : List Srt) (f : Nat) (r : List Tk.Tok) (acc : List Srt), okP t = true → t.length ≤ f → sortsF f (t.map sortT ++ r, false) acc = (acc ++ t, (r, false))
  | [], f, r, acc, h, hf => by cases h
  | [x], 0, r, acc, h, hf => by simp at hf
  | [x], f + 1, r, acc, h, hf => by
    rcases finP_kind h with (rfl | rfl | rfl | rfl) | ⟨h7, hn⟩
    · exact sorts_end (w := wNone) (by decide +kernel) (by decide +kernel) (k := 0) (by decide +kernel) r acc
    · exact sorts_end (w := wBool) (by decide +kernel) (by decide +kernel) (k := 1) (by decide +kernel) r acc
    · exact sorts_end (w := wInt) (by decide +kernel) (by decide +kernel) (k := 2) (by decide +kernel) r acc
    · exact sorts_end (w := wText) (by decide +kernel) (by decide +kernel) (k := 3) (by decide +kernel) r acc
    · obtain ⟨k, n⟩ := x
      simp only at h7 hn
      subst h7
      show sortsF (f + 1) (nT n :: r, false) acc = _
      rw [sortsF]
      simp only [is_n, name_kw hn (k := wList) (mem_kw (by decide +kernel)), name_kw hn (k := wOpt) (mem_kw (by decide +kernel)), Bool.false_eq_true, if_false]
      rw [if_neg (by simp [ends, nT, endW_name hn]), name_n hn]
  | x :: y :: l, 0, r, acc, h, hf => by simp at hf
  | x :: y :: l, f + 1, r, acc, h, hf => by
    have h' : (mid x && okP (y :: l)) = true := h
    rw [Bool.and_eq_true] at h'
    rcases mid_kind h'.1 with rfl | rfl
    · show sortsF (f + 1) (nT wList :: ((y :: l).map sortT ++ r), false) acc = _
      rw [sortsF]
      simp only [is_n, show (wList.toList == wList.toList) = true by decide +kernel, Bool.false_eq_true, if_false, if_true, List.tail_cons]
      rw [sortsF_ok (y :: l) f r _ h'.2 (by simpa using hf)]
      simp
    · show sortsF (f + 1) (nT wOpt :: ((y :: l).map sortT ++ r), false) acc = _
      rw [sortsF]
      simp only [is_n, show (wOpt.toList == wList.toList) = false by decide +kernel, show (wOpt.toList == wOpt.toList) = true by decide +kernel, Bool.false_eq_true, if_false, if_true, List.tail_cons]
      rw [sortsF_ok (y :: l) f r _ h'.2 (by simpa using hf)]
      simp
theorem sorts_ok {t : List Srt} (h : okP t = true) (r : List Tk.Tok) : sorts (t.map sortT ++ r, false) = (t, (r, false)) := by
  unfold sorts
  rw [sortsF_ok t _ r [] h (by simp; omega)]
  rfl
theorem field_ok {f : Fld} (h : Tk.isName f.name = true ∧ okP f.type = true) (r : List Tk.Tok) : field (fldT f ++ r, false) = (f, (r, false)) := by
  show field (nT f.name :: sT sColon :: ((f.type.map sortT ++ [sT sSemi]) ++ r), false) = _
  unfold field
  rw [name_n h.1, want_s, List.append_assoc, sorts_ok h.2]
  simp only
  rw [show [sT sSemi] ++ r = sT sSemi :: r from rfl, want_s]
theorem arg_ok {a : ByteArray} (h : Tk.isName a = true) (r : List Tk.Tok) : arg (sT sOpen :: nT a :: sT sClose :: r, false) = (a, (r, false)) := by
  unfold arg
  rw [want_s, name_n h]
  simp only
  rw [want_s]
theorem step_ok {p : Stp} (h : OkSt p) (r : List Tk.Tok) : Id.step (stpT p ++ r, false) = (p, (r, false)) := by
  show Id.step (nT wDo :: nT p.service :: sT sDot :: nT p.method :: nT wAt :: dT p.at_ :: sT sSemi :: r, false) = _
  unfold Id.step
  simp only [want_n, name_n h.sv, want_s, name_n h.me, num_n]
  obtain ⟨a, b, c⟩ := p
  have := h.lo
  simp only at this ⊢
  rw [Int.toNat_of_nonneg this]
theorem method_ok {m : Mth} (h : OkM m) (r : List Tk.Tok) : Id.method (mthT m ++ r, false) = (m, (r, false)) := by
  show Id.method (nT m.effect :: nT m.name :: sT sOpen :: nT m.arg :: sT sClose :: sT sArrow :: nT (sortW ⟨m.result, ⟨#[]⟩⟩) :: ((undoT m ++ [sT sSemi]) ++ r), false) = _
  have he : [wGive, wTake, wNote].any (fun x => m.effect.toList == x.toList) = true := by rcases h.ef with e | e | e <;> (rw [e]; decide +kernel)
  have hr : [wInt, wNone].any (fun x => (sortW ⟨m.result, ⟨#[]⟩⟩).toList == x.toList) = true ∧ endW (sortW ⟨m.result, ⟨#[]⟩⟩) = m.result := by rcases h.re with e | e <;> (rw [e]; decide +kernel)
  unfold Id.method
  simp only [words_n he, name_n h.nm, arg_ok h.ar, want_s, words_n hr.1, hr.2]
  obtain ⟨mn, ma, mr, me, mu⟩ := m
  simp only at *
  rcases h.un with e | e
  · have e0 := empty_of e
    simp only at e0
    subst e0
    rw [show undoT (⟨mn, ma, mr, me, ⟨#[]⟩⟩ : Mth) = [] from by unfold undoT; rw [if_pos (show (⟨#[]⟩ : ByteArray).toList.isEmpty = true by decide +kernel)]]
    show _ = _
    rw [List.nil_append, show [sT sSemi] ++ r = sT sSemi :: r from rfl]
    have ht : take (sT sSemi :: r, false) wUndo = (false, (sT sSemi :: r, false)) := by
      unfold take
      rw [is_s, show (sSemi.toList == wUndo.toList) = false by decide +kernel]
      rfl
    simp only [ht, Bool.false_eq_true, if_false, want_s]
  · have hne : mu.toList.isEmpty = false := by
      cases hh : mu.toList.isEmpty
      · rfl
      · have e0 := empty_of hh
        simp only at e e0
        rw [e0] at e
        exact absurd e (by decide +kernel)
    rw [show undoT (⟨mn, ma, mr, me, mu⟩ : Mth) = [nT wUndo, nT mu] from by unfold undoT; simp only [hne, Bool.false_eq_true, if_false]]
    show _ = _
    rw [show [nT wUndo, nT mu] ++ [sT sSemi] ++ r = nT wUndo :: nT mu :: sT sSemi :: r from rfl]
    have ht : take (nT wUndo :: nT mu :: sT sSemi :: r, false) wUndo = (true, (nT mu :: sT sSemi :: r, false)) := by
      unfold take
      rw [is_n, show (wUndo.toList == wUndo.toList) = true by decide +kernel]
      rfl
    simp only [ht, if_true, name_n e, want_s]
theorem withinF_ok {α : Type} {read : St → α × St} {T : α → List Tk.Tok} : ∀ (l : List α) (f : Nat) (r : List Tk.Tok) (acc : List α), (∀ a ∈ l, ∀ q, is (T a ++ q, false) sRight = false ∧ read (T a ++ q, false) = (a, (q, false))) → l.length < f →
    withinF read f (l.flatMap T ++ sT sRight :: r, false) acc = (acc ++ l, (r, false))
  | [], 0, r, acc, h, hf => by simp at hf
  | [], f + 1, r, acc, h, hf => by
    show withinF read (f + 1) (sT sRight :: r, false) acc = _
    rw [withinF, is_s, show (sRight.toList == sRight.toList) = true by decide +kernel]
    simp
  | a :: l, 0, r, acc, h, hf => by simp at hf
  | a :: l, f + 1, r, acc, h, hf => by
    obtain ⟨h1, h2⟩ := h a (by simp) (l.flatMap T ++ sT sRight :: r)
    rw [List.flatMap_cons, List.append_assoc, withinF, h1, h2]
    simp only [Bool.false_eq_true, if_false]
    rw [withinF_ok l f r _ (fun b hb => h b (by simp [hb])) (by simpa using hf)]
    simp
theorem flat_len_ge {α β : Type} {T : α → List β} {l : List α} (h : ∀ a ∈ l, 1 ≤ (T a).length) : l.length ≤ (l.flatMap T).length := by
  induction l with
  | nil => simp
  | cons a l ih =>
    rw [List.flatMap_cons, List.length_append, List.length_cons]
    have := h a (by simp)
    have := ih (fun b hb => h b (by simp [hb]))
    omega
theorem within_ok {α : Type} {read : St → α × St} {T : α → List Tk.Tok} {l : List α} (h : ∀ a ∈ l, ∀ q, is (T a ++ q, false) sRight = false ∧ read (T a ++ q, false) = (a, (q, false))) (hl : ∀ a ∈ l, 1 ≤ (T a).length) (r : List Tk.Tok) :
    within read (sT sLeft :: ((l.flatMap T ++ [sT sRight]) ++ r), false) = (l, (r, false)) := by
  unfold within
  rw [want_s, List.append_assoc]
  have := flat_len_ge hl
  show withinF read _ (l.flatMap T ++ sT sRight :: r, false) [] = _
  rw [withinF_ok l _ r [] h (by simp only [List.length_append, List.length_cons]; omega)]
  rfl
theorem round_rec {x : Rec} (h1 : Tk.isName x.name = true) (h2 : ∀ f ∈ x.fields, Tk.isName f.name = true ∧ okP f.type = true) (r : List Tk.Tok) (y : Sch) : (round (recT x ++ r, false)).1 y = { y with records := y.records ++ [x] } ∧ (round (recT x ++ r, false)).2 = (r, false) := by
  obtain ⟨xn, xc, xf⟩ := x
  simp only at h1 h2
  have hw : within field (sT sLeft :: ((xf.flatMap fldT ++ [sT sRight]) ++ r), false) = (xf, (r, false)) := within_ok (fun f hf q => ⟨(is_n f.name sRight _).trans (name_head (h2 f hf).1 (by decide)), field_ok (h2 f hf) q⟩) (fun f _ => by simp [fldT]) r
  cases xc
  · have hws : words decls (nT wRecord :: nT xn :: sT sLeft :: ((xf.flatMap fldT ++ [sT sRight]) ++ r), false) = (wRecord, (nT xn :: sT sLeft :: ((xf.flatMap fldT ++ [sT sRight]) ++ r), false)) := words_n (by decide +kernel) _
    show (round (nT wRecord :: nT xn :: sT sLeft :: ((xf.flatMap fldT ++ [sT sRight]) ++ r), false)).1 y = _ ∧ (round (nT wRecord :: nT xn :: sT sLeft :: ((xf.flatMap fldT ++ [sT sRight]) ++ r), false)).2 = _
    unfold round
    rw [hws]
    dsimp only
    rw [if_pos (by decide +kernel)]
    unfold record
    rw [name_n h1]
    simp only [hw, and_self]
  · have hws : words decls (nT wChoice :: nT xn :: sT sLeft :: ((xf.flatMap fldT ++ [sT sRight]) ++ r), false) = (wChoice, (nT xn :: sT sLeft :: ((xf.flatMap fldT ++ [sT sRight]) ++ r), false)) := words_n (by decide +kernel) _
    show (round (nT wChoice :: nT xn :: sT sLeft :: ((xf.flatMap fldT ++ [sT sRight]) ++ r), false)).1 y = _ ∧ (round (nT wChoice :: nT xn :: sT sLeft :: ((xf.flatMap fldT ++ [sT sRight]) ++ r), false)).2 = _
    unfold round
    rw [hws]
    dsimp only
    rw [if_neg (by decide +kernel), if_pos (by decide +kernel)]
    unfold record
    rw [name_n h1]
    simp only [hw, and_self]
theorem effect_right {m : Mth} (h : OkM m) : (m.effect.toList == sRight.toList) = false := by rcases h.ef with e | e | e <;> (rw [e]; decide +kernel)
theorem round_svc {x : Svc} (h1 : Tk.isName x.name = true) (h2 : ∀ m ∈ x.methods, OkM m) (r : List Tk.Tok) (y : Sch) : (round (svcT x ++ r, false)).1 y = { y with services := y.services ++ [x] } ∧ (round (svcT x ++ r, false)).2 = (r, false) := by
  obtain ⟨xn, xf⟩ := x
  simp only at h1 h2
  have hw : within Id.method (sT sLeft :: ((xf.flatMap mthT ++ [sT sRight]) ++ r), false) = (xf, (r, false)) := within_ok (fun m hm q => ⟨(is_n m.effect sRight _).trans (effect_right (h2 m hm)), method_ok (h2 m hm) q⟩) (fun m _ => by simp [mthT]) r
  have hws : words decls (nT wService :: nT xn :: sT sLeft :: ((xf.flatMap mthT ++ [sT sRight]) ++ r), false) = (wService, (nT xn :: sT sLeft :: ((xf.flatMap mthT ++ [sT sRight]) ++ r), false)) := words_n (by decide +kernel) _
  show (round (nT wService :: nT xn :: sT sLeft :: ((xf.flatMap mthT ++ [sT sRight]) ++ r), false)).1 y = _ ∧ (round (nT wService :: nT xn :: sT sLeft :: ((xf.flatMap mthT ++ [sT sRight]) ++ r), false)).2 = _
  unfold round
  rw [hws]
  dsimp only
  rw [if_neg (by decide +kernel), if_neg (by decide +kernel), if_pos (by decide +kernel)]
  unfold service
  rw [name_n h1]
  simp only [hw, and_self]
theorem round_sag {x : Sag} (h1 : Tk.isName x.name = true ∧ Tk.isName x.arg = true) (h2 : ∀ p ∈ x.steps, OkSt p) (r : List Tk.Tok) (y : Sch) : (round (sagT x ++ r, false)).1 y = { y with sagas := y.sagas ++ [x] } ∧ (round (sagT x ++ r, false)).2 = (r, false) := by
  obtain ⟨xn, xa, xf⟩ := x
  simp only at h1 h2
  have hw : within Id.step (sT sLeft :: ((xf.flatMap stpT ++ [sT sRight]) ++ r), false) = (xf, (r, false)) := within_ok (fun m hm q => ⟨(is_n wDo sRight _).trans (by decide +kernel), step_ok (h2 m hm) q⟩) (fun m _ => by simp [stpT]) r
  have hws : words decls (nT wSaga :: nT xn :: sT sOpen :: nT xa :: sT sClose :: sT sLeft :: ((xf.flatMap stpT ++ [sT sRight]) ++ r), false) = (wSaga, (nT xn :: sT sOpen :: nT xa :: sT sClose :: sT sLeft :: ((xf.flatMap stpT ++ [sT sRight]) ++ r), false)) := words_n (by decide +kernel) _
  show (round (nT wSaga :: nT xn :: sT sOpen :: nT xa :: sT sClose :: sT sLeft :: ((xf.flatMap stpT ++ [sT sRight]) ++ r), false)).1 y = _ ∧ (round (nT wSaga :: nT xn :: sT sOpen :: nT xa :: sT sClose :: sT sLeft :: ((xf.flatMap stpT ++ [sT sRight]) ++ r), false)).2 = _
  unfold round
  rw [hws]
  dsimp only
  rw [if_neg (by decide +kernel), if_neg (by decide +kernel), if_neg (by decide +kernel), if_pos (by decide +kernel)]
  unfold saga
  rw [name_n h1.1]
  simp only [arg_ok h1.2, hw, and_self]
theorem schemaF_step {f : Nat} {T r : List Tk.Tok} {x y : Sch} (hT : T ≠ []) (h : (round (T ++ r, false)).1 x = y ∧ (round (T ++ r, false)).2 = (r, false)) : schemaF (f + 1) (T ++ r, false) x = schemaF f (r, false) y := by
  rw [schemaF_round, if_neg (by simp [hT]), h.1, h.2]
theorem schemaF_recs : ∀ (l : List Rec) (f : Nat) (r : List Tk.Tok) (y : Sch), (∀ x ∈ l, Tk.isName x.name = true ∧ ∀ f ∈ x.fields, Tk.isName f.name = true ∧ okP f.type = true) → schemaF (l.length + f) (l.flatMap recT ++ r, false) y = schemaF f (r, false) { y with records := y.records ++ l }
  | [], f, r, y, h => by simp
  | x :: l, f, r, y, h => by
    rw [List.flatMap_cons, List.append_assoc, show (x :: l).length + f = (l.length + f) + 1 by simp; omega,
      schemaF_step (by simp [recT]) (round_rec (h x (by simp)).1 (h x (by simp)).2 _ y), schemaF_recs l f r _ (fun a ha => h a (by simp [ha]))]
    simp
theorem schemaF_svcs : ∀ (l : List Svc) (f : Nat) (r : List Tk.Tok) (y : Sch), (∀ x ∈ l, Tk.isName x.name = true ∧ ∀ m ∈ x.methods, OkM m) → schemaF (l.length + f) (l.flatMap svcT ++ r, false) y = schemaF f (r, false) { y with services := y.services ++ l }
  | [], f, r, y, h => by simp
  | x :: l, f, r, y, h => by
    rw [List.flatMap_cons, List.append_assoc, show (x :: l).length + f = (l.length + f) + 1 by simp; omega,
      schemaF_step (by simp [svcT]) (round_svc (h x (by simp)).1 (h x (by simp)).2 _ y), schemaF_svcs l f r _ (fun a ha => h a (by simp [ha]))]
    simp
theorem schemaF_sags : ∀ (l : List Sag) (f : Nat) (r : List Tk.Tok) (y : Sch), (∀ x ∈ l, (Tk.isName x.name = true ∧ Tk.isName x.arg = true) ∧ ∀ p ∈ x.steps, OkSt p) → schemaF (l.length + f) (l.flatMap sagT ++ r, false) y = schemaF f (r, false) { y with sagas := y.sagas ++ l }
  | [], f, r, y, h => by simp
  | x :: l, f, r, y, h => by
    rw [List.flatMap_cons, List.append_assoc, show (x :: l).length + f = (l.length + f) + 1 by simp; omega,
      schemaF_step (by simp [sagT]) (round_sag (h x (by simp)).1 (h x (by simp)).2 _ y), schemaF_sags l f r _ (fun a ha => h a (by simp [ha]))]
    simp
theorem schema_ok {x : Sch} (h : Ok x) : schema (schT x, false) = (x, ([], false)) := by
  unfold schema schT
  simp only [want_n, name_n h.nm, want_s]
  have l1 := flat_len_ge (T := recT) (l := x.records) (fun a _ => by simp [recT])
  have l2 := flat_len_ge (T := svcT) (l := x.services) (fun a _ => by simp [svcT])
  have l3 := flat_len_ge (T := sagT) (l := x.sagas) (fun a _ => by simp [sagT])
  obtain ⟨f, hf⟩ : ∃ f, (x.records.flatMap recT ++ (x.services.flatMap svcT ++ x.sagas.flatMap sagT)).length + 2 = x.records.length + (x.services.length + (x.sagas.length + f)) := ⟨(x.records.flatMap recT ++ (x.services.flatMap svcT ++ x.sagas.flatMap sagT)).length + 2 - x.records.length - x.services.length - x.sagas.length, by simp only [List.length_append]; omega⟩
  rw [hf, schemaF_recs _ _ _ _ (fun r hr => ⟨h.rn r hr, h.rf r hr⟩), schemaF_svcs _ _ _ _ (fun v hv => ⟨h.vn v hv, h.vm v hv⟩)]
  have := schemaF_sags x.sagas f [] ⟨x.name, [] ++ x.records, [] ++ x.services, []⟩ (fun g hg => ⟨h.gn g hg, h.gs g hg⟩)
  rw [List.append_nil] at this
  rw [this, schemaF_nil]
  simp
theorem placed_z : ∀ (l : List Tk.Tok) (k : Nat), (Tk.placed l k).map z = l.map z
  | [], _ => rfl
  | t :: l, k => by
    show z _ :: (Tk.placed l _).map z = z t :: l.map z
    rw [placed_z l]
    rfl
theorem tok_z {t : Tk.Tok} (h : t.at_ = 0) : z t = t := by
  obtain ⟨a, b, c, d⟩ := t
  simp only at h
  subst h
  rfl
theorem z_all : ∀ {l : List Tk.Tok}, (∀ t ∈ l, t.at_ = 0) → l.map z = l
  | [], _ => rfl
  | t :: l, h => by rw [List.map_cons, tok_z (h t (by simp)), z_all (fun u hu => h u (by simp [hu]))]
theorem at_flat {α : Type} {f : α → List Tk.Tok} {l : List α} (h : ∀ a ∈ l, ∀ t ∈ f a, t.at_ = 0) : ∀ t ∈ l.flatMap f, t.at_ = 0 := fun t ht => by
  obtain ⟨a, ha, ht⟩ := List.mem_flatMap.1 ht
  exact h a ha t ht
theorem at_sorts (l : List Srt) : ∀ t ∈ l.map sortT, t.at_ = 0 := fun t ht => by
  obtain ⟨a, _, rfl⟩ := List.mem_map.1 ht
  rfl
theorem sch_at (x : Sch) : ∀ t ∈ schT x, t.at_ = 0 := by
  have hf : ∀ f : Fld, ∀ t ∈ fldT f, t.at_ = 0 := fun f t ht => by
    simp only [fldT, List.mem_cons, List.mem_append, List.not_mem_nil, or_false] at ht
    rcases ht with rfl | rfl | ht | rfl
    · rfl
    · rfl
    · exact at_sorts _ t ht
    · rfl
  have hm : ∀ m : Mth, ∀ t ∈ mthT m, t.at_ = 0 := fun m t ht => by
    simp only [mthT, undoT, List.mem_cons, List.mem_append, List.not_mem_nil, or_false] at ht
    rcases ht with rfl | rfl | rfl | rfl | rfl | rfl | rfl | ht | rfl
    · rfl
    · rfl
    · rfl
    · rfl
    · rfl
    · rfl
    · rfl
    · split at ht
      · cases ht
      · simp only [List.mem_cons, List.not_mem_nil, or_false] at ht
        rcases ht with rfl | rfl <;> rfl
    · rfl
  have hp : ∀ p : Stp, ∀ t ∈ stpT p, t.at_ = 0 := fun p t ht => by
    simp only [stpT, List.mem_cons, List.not_mem_nil, or_false] at ht
    rcases ht with rfl | rfl | rfl | rfl | rfl | rfl | rfl <;> rfl
  intro t ht
  simp only [schT, List.mem_cons, List.mem_append] at ht
  rcases ht with rfl | rfl | rfl | ht | ht | ht
  · rfl
  · rfl
  · rfl
  · refine at_flat (fun r _ t ht => ?_) t ht
    simp only [recT, List.mem_cons, List.mem_append, List.not_mem_nil, or_false] at ht
    rcases ht with rfl | rfl | rfl | ht | rfl
    · rfl
    · rfl
    · rfl
    · exact at_flat (fun f _ => hf f) t ht
    · rfl
  · refine at_flat (fun r _ t ht => ?_) t ht
    simp only [svcT, List.mem_cons, List.mem_append, List.not_mem_nil, or_false] at ht
    rcases ht with rfl | rfl | rfl | ht | rfl
    · rfl
    · rfl
    · rfl
    · exact at_flat (fun f _ => hm f) t ht
    · rfl
  · refine at_flat (fun r _ t ht => ?_) t ht
    simp only [sagT, List.mem_cons, List.mem_append, List.not_mem_nil, or_false] at ht
    rcases ht with rfl | rfl | rfl | rfl | rfl | rfl | ht | rfl
    · rfl
    · rfl
    · rfl
    · rfl
    · rfl
    · rfl
    · exact at_flat (fun f _ => hp f) t ht
    · rfl
/-- Reading commutes with places. -/
theorem read_placed {α : Type} {read : St → α × St} (hz : ∀ s, read (zs s) = ((read s).1, zs (read s).2)) {l : List Tk.Tok} (h0 : ∀ t ∈ l, t.at_ = 0) {a : α} (h : read (l, false) = (a, ([], false))) : read (Tk.placed l 0, false) = (a, ([], false)) := by
  have h1 := hz (Tk.placed l 0, false)
  rw [show zs (Tk.placed l 0, false) = (l, false) from by unfold zs; rw [placed_z, z_all h0], h] at h1
  obtain ⟨⟨b, q, e⟩, hb⟩ : ∃ p, read (Tk.placed l 0, false) = p := ⟨_, rfl⟩
  rw [hb] at h1 ⊢
  unfold zs at h1
  simp only [Prod.mk.injEq] at h1
  obtain ⟨h2, h3, h4⟩ := h1
  rw [← h2, ← h4, List.map_eq_nil_iff.1 h3.symm]
/-- What is read of a schema's text is the schema. -/
theorem parse_text {x : Sch} (h : Ok x) (hs : (jn (schW x)).size ≤ 65536) : parse (jn (schW x)) = (x, 0, 0) := by
  have ha := all_text (owns_sch h) (by rw [sch_tx]; exact hs)
  rw [sch_tx] at ha
  exact parse_of ha (read_placed schema_z (sch_at x) (schema_ok h))
/-- A right schema has such parts. -/
theorem ok_of_right {x : Sch} (h : Right x) : Ok x := by
  obtain ⟨hn, hc, hd, ht, hb, he, hu, hg, hs, hw⟩ := right_iff.1 h
  unfold namesT at hn
  simp only [List.mem_cons, List.mem_append, forall_eq_or_imp] at hn
  obtain ⟨n0, n1⟩ := hn
  have nr : ∀ r ∈ x.records, Tk.isName r.name = true ∧ ∀ f ∈ r.fields, Tk.isName f.name = true := fun r hr => by
    have k := fun t (ht : t ∈ namesR r) => n1 t (.inl (List.mem_flatMap.2 ⟨r, hr, ht⟩))
    exact ⟨k (nm r.name) (by simp [namesR]), fun f hf => k (nm f.name) (by unfold namesR; exact List.mem_cons_of_mem _ (List.mem_flatMap.2 ⟨f, hf, by simp [namesF]⟩))⟩
  have nv : ∀ v ∈ x.services, Tk.isName v.name = true ∧ ∀ m ∈ v.methods, Tk.isName m.name = true := fun v hv => by
    have k := fun t (ht : t ∈ namesV v) => n1 t (.inr (.inl (List.mem_flatMap.2 ⟨v, hv, ht⟩)))
    exact ⟨k (nm v.name) (by simp [namesV]), fun f hf => k (nm f.name) (by unfold namesV; exact List.mem_cons_of_mem _ (List.mem_flatMap.2 ⟨f, hf, by simp [namesM]⟩))⟩
  have ng : ∀ g ∈ x.sagas, Tk.isName g.name = true := fun g hg => n1 (nm g.name) (.inr (.inr (List.mem_flatMap.2 ⟨g, hg, by simp [namesG]⟩)))
  have fnd : ∀ w : ByteArray, (find x w).isSome = true → Tk.isName w = true := fun w hw => by
    obtain ⟨r, hr⟩ := Option.isSome_iff_exists.1 hw
    have h1 := List.find?_some hr
    have h2 := List.mem_of_find?_eq_some hr
    have e : r.name = w := Tk.text_eq (by simpa using h1)
    rw [← e]
    exact (nr r h2).1
  have ord : ∀ w : ByteArray, order x w = true → Tk.isName w = true := fun w hw => by
    refine fnd w ?_
    unfold order at hw
    split at hw
    · cases hw
    · next hf => rw [hf]; rfl
  have okt : ∀ t : List Srt, okT x t = true → okP t = true := by
    intro t
    induction t with
    | nil => intro h; cases h
    | cons a t ih =>
      intro h
      cases t with
      | nil =>
        have h' : fin x a = true := h
        show finP a = true
        unfold fin at h'
        unfold finP
        split at h'
        next hk => rw [if_pos hk]; exact h'
        next hk =>
          rw [if_neg hk]
          split at h'
          next h7 => rw [if_pos h7]; exact fnd _ h'
          next => cases h'
      | cons b t =>
        have h' : (mid a && okT x (b :: t)) = true := h
        rw [Bool.and_eq_true] at h'
        show (mid a && okP (b :: t)) = true
        rw [Bool.and_eq_true]
        exact ⟨h'.1, ih h'.2⟩
  have ms : ∀ v ∈ x.services, ∀ m ∈ v.methods, (m.result = 1 ∨ m.result = 3) ∧ (contrary m.effect).toList.isEmpty = false ∧ order x m.arg = true ∧ (m.undo.toList.isEmpty = true ∨ undoOk x v.name m = true) := fun v hv m hm => by
    have k1 := ht (m.result == 3 || m.result == 1, Chk.part v.name m.name) (by unfold typesT; exact List.mem_append_right _ (List.mem_flatMap.2 ⟨v, hv, List.mem_flatMap.2 ⟨m, hm, by simp [typesM]⟩⟩))
    have k2 := he (!(contrary m.effect).toList.isEmpty && order x m.arg, Chk.part v.name m.name) (List.mem_flatMap.2 ⟨v, hv, List.mem_flatMap.2 ⟨m, hm, by simp [effectsM]⟩⟩)
    have k3 := hu (m.undo.toList.isEmpty || undoOk x v.name m, Chk.part v.name m.name) (List.mem_flatMap.2 ⟨v, hv, List.mem_flatMap.2 ⟨m, hm, by simp [undosM]⟩⟩)
    simp only [Bool.or_eq_true, beq_iff_eq] at k1
    simp only [Bool.and_eq_true, Bool.not_eq_true'] at k2
    simp only [Bool.or_eq_true] at k3
    exact ⟨k1.symm, k2.1, k2.2, k3⟩
  have mth : ∀ a b m, meth x a b = some m → Tk.isName a = true ∧ Tk.isName b = true := fun a b m hm => by
    obtain ⟨v, hv, e, hmv⟩ := meth_mem hm
    refine ⟨by rw [← Tk.text_eq e]; exact (nv v hv).1, ?_⟩
    unfold meth at hm
    split at hm
    · cases hm
    · have h1 := List.find?_some hm
      have e2 : m.name = b := Tk.text_eq (by simpa using h1)
      rw [← e2]
      exact (nv v hv).2 m hmv
  refine ⟨n0, fun r hr => (nr r hr).1, fun r hr f hf => ⟨(nr r hr).2 f hf, ?_⟩, fun v hv => (nv v hv).1, fun v hv m hm => ?_, fun g hg' => ⟨ng g hg', ?_⟩, fun g hg' p hp => ?_⟩
  · have k := ht (right x f.type, Chk.part r.name f.name) (by unfold typesT; exact List.mem_append_left _ (List.mem_flatMap.2 ⟨r, hr, List.mem_flatMap.2 ⟨f, hf, by simp [typesF]⟩⟩))
    simp only at k
    unfold right at k
    rw [Bool.and_eq_true] at k
    exact okt _ k.2
  · obtain ⟨k1, k2, k3, k4⟩ := ms v hv m hm
    refine ⟨?_, (nv v hv).2 m hm, ord _ k3, k1, ?_⟩
    · unfold contrary at k2
      by_cases e1 : m.effect.toList = wGive.toList
      · exact .inl (Tk.text_eq e1)
      · rw [if_neg e1] at k2
        by_cases e2 : m.effect.toList = wTake.toList
        · exact .inr (.inl (Tk.text_eq e2))
        · rw [if_neg e2] at k2
          by_cases e3 : m.effect.toList = wNote.toList
          · exact .inr (.inr (Tk.text_eq e3))
          · rw [if_neg e3] at k2
            exact absurd k2 (by decide +kernel)
    · refine k4.imp id fun k => ?_
      unfold undoOk at k
      split at k
      · cases k
      · next u hu' => exact (mth _ _ _ hu').2
  · have k := hg (order x g.arg, g.name) (List.mem_flatMap.2 ⟨g, hg', by simp⟩)
    exact ord _ k
  · obtain ⟨k, hk, rfl⟩ := List.getElem_of_mem hp
    have hz : (g.steps[k], k) ∈ g.steps.zipIdx := by
      rw [List.mem_iff_getElem]
      exact ⟨k, by rw [List.length_zipIdx]; exact hk, by rw [List.getElem_zipIdx, Nat.zero_add]⟩
    have h1 := hs (stepOk x g.arg g.steps[k], nth g.name k) (List.mem_flatMap.2 ⟨g, hg', List.mem_flatMap.2 ⟨_, hz, by simp [stepsP]⟩⟩)
    simp only at h1
    unfold stepOk at h1
    split at h1
    · cases h1
    · next m hm =>
      unfold stepOf at h1
      simp only [Bool.and_eq_true, decide_eq_true_eq] at h1
      exact ⟨(mth _ _ _ hm).1, (mth _ _ _ hm).2, h1.1.2, h1.2⟩
end Prn
end Go.Proofs.YtmncppnpppdfkaaDoor
