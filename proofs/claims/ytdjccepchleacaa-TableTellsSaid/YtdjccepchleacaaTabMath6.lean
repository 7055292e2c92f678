/- Chapter 6, plain: what the document's own functions tell. -/
import Derived.Test.YtdjccepchleacaaTabL
set_option linter.unusedVariables false
namespace Go.Proofs.Ytdjccepchleacaa
namespace Tb
def lg (x : Ent) : Bool := decide (128 < x.key.size) || decide (16384 < x.value.size)
def tot : List Ent → Nat
  | [] => 0
  | x :: r => x.key.size + x.value.size + tot r
theorem longF_ref : ∀ (l : List Ent) (a : Nat), a ≤ 524288 → longF a l = (l.any lg || decide (524288 < a + tot l))
  | [], a, h => by
    show false = (false || decide (524288 < a + 0))
    rw [decide_eq_false (by omega)]
    rfl
  | x :: r, a, h => by
    unfold longF
    rw [List.any_cons]
    unfold tot
    cases h1 : lg x
    · have h1' : (decide (128 < x.key.size) || decide (16384 < x.value.size)) = false := h1
      rw [h1', Bool.false_or, Bool.false_or]
      by_cases h2 : 524288 < a + (x.key.size + x.value.size)
      · rw [decide_eq_true h2, Bool.true_or, decide_eq_true (by omega), Bool.or_true]
      · rw [decide_eq_false h2, Bool.false_or, longF_ref r _ (by omega)]
        simp only [Nat.add_assoc]
    · have h1' : (decide (128 < x.key.size) || decide (16384 < x.value.size)) = true := h1
      rw [h1', Bool.true_or, Bool.true_or, Bool.true_or, Bool.true_or]
def longR (l : List Ent) : Bool := decide (4096 < l.length) || l.any lg
theorem right_ref (l : List Ent) : right l = if (longR l || decide (524288 < tot l)) = true then 3 else if badF none l then 1 else 0 := by
  unfold right longR
  rw [longF_ref l 0 (by omega), Nat.zero_add]
  by_cases h : 4096 < l.length
  · rw [if_pos h, decide_eq_true h, Bool.true_or, Bool.true_or, if_pos rfl]
  · rw [if_neg h, decide_eq_false h, Bool.false_or]
theorem notUp_less (y : Ent) (k : ByteArray) : notUp (some y) k = !less y.key k := by
  show (less k y.key || k.toList == y.key.toList) = !less y.key k
  cases h1 : less k y.key
  · cases h2 : k.toList == y.key.toList
    · rw [less_total h1 h2]; rfl
    · have := text_eq' (by simpa using h2)
      subst this
      rw [h1]; rfl
  · cases h3 : less y.key k
    · rfl
    · have := less_trans h1 h3
      rw [less_irrefl] at this
      cases this
def room : List Ent → Nat
  | [] => 64
  | x :: r => 2 * x.key.size + x.value.size + 24 + room r
theorem body_room : ∀ l : List Ent, (body l).length + 64 ≤ room l
  | [] => by simp [body, room]
  | x :: r => by
    have ih := body_room r
    unfold body at ih ⊢
    rw [List.flatMap_cons, List.length_append, text_len]
    unfold room
    omega
theorem fits_room (l : List Ent) : (ba (bytes l)).size < room l := by
  rw [ba_size, bytes_len]
  have := body_room l
  omega
theorem find_get {l : List Ent} (hs : Sorted l) (key : ByteArray) : l.find? (fun x => x.key.toList == key.toList) = get l key := by
  cases h : l.find? (fun x => x.key.toList == key.toList) with
  | none =>
    rw [List.find?_eq_none] at h
    exact (get_none (fun x hx hk => h x hx (by rw [hk]; simp))).symm
  | some x =>
    have hm := List.mem_of_find?_eq_some h
    have hk := List.find?_some h
    have hk' : x.key = key := text_eq' (by simpa using hk)
    rw [← hk', get_mem hs hm]
/-- The front of a going over that is left behind so many. -/
def part (leave : Int) (l : List Ent) : List Ent := if 0 < leave ∧ leave < l.length then l.take leave.toNat else l
theorem tot_take {l : List Ent} {k : Nat} (h : k < l.length) : tot (l.take (k + 1)) = tot (l.take k) + l[k].key.size + l[k].value.size := by
  induction l generalizing k with
  | nil => simp at h
  | cons x r ih =>
    cases k with
    | zero => simp [tot]
    | succ k =>
      have := ih (k := k) (by simpa using h)
      simp only [List.take_succ_cons, tot, List.getElem_cons_succ]
      omega
theorem room_take {l : List Ent} {k : Nat} (h : k < l.length) : room (l.take (k + 1)) = room (l.take k) + (2 * l[k].key.size) + l[k].value.size + 24 := by
  induction l generalizing k with
  | nil => simp at h
  | cons x r ih =>
    cases k with
    | zero => simp [room]; omega
    | succ k =>
      have := ih (k := k) (by simpa using h)
      simp only [List.take_succ_cons, room, List.getElem_cons_succ]
      omega
theorem any_take {l : List Ent} {k : Nat} (h : k < l.length) (p : Ent → Bool) : (l.take (k + 1)).any p = ((l.take k).any p || p l[k]) := by
  rw [List.take_succ_eq_append_getElem h, List.any_append]
  simp
theorem tot_le (l : List Ent) (m : Nat) (h : ∀ x ∈ l, x.key.size ≤ m ∧ x.value.size ≤ m) : tot l ≤ 2 * m * l.length := by
  induction l with
  | nil => simp [tot]
  | cons x r ih =>
    have := ih (fun y hy => h y (List.mem_cons_of_mem _ hy))
    have h2 := h x (List.mem_cons_self ..)
    simp only [tot, List.length_cons, Nat.mul_add, Nat.mul_one]
    omega
theorem room_le (l : List Ent) (m : Nat) (h : ∀ x ∈ l, x.key.size ≤ m ∧ x.value.size ≤ m) : room l ≤ 64 + (3 * m + 24) * l.length := by
  induction l with
  | nil => simp [room]
  | cons x r ih =>
    have := ih (fun y hy => h y (List.mem_cons_of_mem _ hy))
    have h2 := h x (List.mem_cons_self ..)
    simp only [room, List.length_cons, Nat.mul_add, Nat.mul_one]
    omega
end Tb
end Go.Proofs.Ytdjccepchleacaa
