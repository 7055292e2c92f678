/- redressref13: Levels, records by value (printed by gen_rchk7.py). No condition. -/
import Derived.Test.YtmncppnpppdfkaaDoorChkR3
set_option linter.unusedVariables false
set_option linter.unusedSimpArgs false
namespace Go.Proofs.YtmncppnpppdfkaaDoor
open Go.RowKit Go.BigFrame
def bArr (l : List Bool) : Array Value := (l.map Value.bool).toArray
theorem bArr_get {l : List Bool} {i : Nat} (h : i < l.length) : (bArr l)[i]? = some (.bool l[i]) := by
  unfold bArr
  simp [h]
theorem bArr_set {l : List Bool} {i : Nat} (b : Bool) : (bArr l).setIfInBounds i (.bool b) = bArr (l.set i b) := by
  unfold bArr
  simp
theorem bArr_rep (n : Nat) : Array.replicate n (Value.bool false) = bArr (List.replicate n false) := by
  unfold bArr
  simp
theorem info_bools : (Tryd.prog.info? 4).map (fun i => (i.zero, i.size, i.bytes)) = some (some (.bool false), 1, 1) := by kernel_rfl
namespace Chk
open Go.Proofs.YtmncppnpppdfkaaDoor.Id
/-- The new level, as far as it is filled. -/
def lvM (rs : List Rec) (L : List Bool) (i : Nat) : List Bool := (rs.take i).map (lvR rs L) ++ List.replicate (rs.length - i) false
theorem lvM_zero (rs : List Rec) (L : List Bool) : lvM rs L 0 = List.replicate rs.length false := by simp [lvM]
theorem lvM_end (rs : List Rec) (L : List Bool) : lvM rs L rs.length = lvN rs L := by simp [lvM, lvN]
theorem lvM_len (rs : List Rec) (L : List Bool) {i : Nat} (h : i ≤ rs.length) : (lvM rs L i).length = rs.length := by simp [lvM]; omega
theorem lvM_next {rs : List Rec} {L : List Bool} {i : Nat} (h : i < rs.length) : (lvM rs L i).set i (lvR rs L rs[i]) = lvM rs L (i + 1) := by
  unfold lvM
  rw [List.set_append_right _ _ (by simp; omega), List.take_succ_eq_append_getElem h, List.map_append]
  have e : (List.map (lvR rs L) (List.take i rs)).length = i := by simp; omega
  rw [e, Nat.sub_self, show rs.length - i = (rs.length - (i + 1)) + 1 by omega, List.replicate_succ, List.set_cons_zero, List.append_assoc]
  rfl
theorem lvl_step {rs : List Rec} {L : List Bool} {x : Nat} {n : ByteArray} (h : x < rs.length) (h' : x < L.length) : lvl (rs.drop x) (L.drop x) n = if rs[x].name.toList == n.toList then L[x] else lvl (rs.drop (x + 1)) (L.drop (x + 1)) n := by
  rw [List.drop_eq_getElem_cons h, List.drop_eq_getElem_cons h']
  rfl
theorem lvl_done {rs : List Rec} {L : List Bool} {x : Nat} {n : ByteArray} (h : rs.length ≤ x) : lvl (rs.drop x) (L.drop x) n = false := by
  rw [List.drop_of_length_le h]
  rfl
end Chk
end Go.Proofs.YtmncppnpppdfkaaDoor
