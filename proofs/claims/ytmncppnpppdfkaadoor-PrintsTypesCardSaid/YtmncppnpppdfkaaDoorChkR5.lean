/- redressref13: num, steps (printed by gen_rchk4.py). No condition. -/
import Derived.Test.YtmncppnpppdfkaaDoorChkR3
set_option linter.unusedVariables false
set_option linter.unusedSimpArgs false
namespace Go.Proofs.YtmncppnpppdfkaaDoor
open Go.RowKit Go.BigFrame
theorem digits_two {n : Nat} (h : n < 100) : (Lib.decDigits n).length ≤ 2 := by
  by_cases h1 : n < 10
  · rw [Lib.decDigits_one h1]; simp
  · rw [Lib.decDigits_two h1 h]; simp
def Chk.stepM (ra : ByteArray) (p : Id.Stp) : Option Id.Mth → Bool
  | none => false
  | some m => Chk.stepOf ra p m
theorem Chk.stepOk_eq (x : Id.Sch) (ra : ByteArray) (p : Id.Stp) : Chk.stepOk x ra p = Chk.stepM ra p (Chk.meth x p.service p.method) := by
  unfold Chk.stepOk
  cases Chk.meth x p.service p.method <;> rfl
theorem zip_drop {α : Type} {l : List α} {j : Nat} {a : α} {m : List α} (hd : l.drop j = a :: m) : l.zipIdx.drop j = (a, j) :: l.zipIdx.drop (j + 1) := by
  have hj : j < l.length := by
    rcases Nat.lt_or_ge j l.length with h | h
    · exact h
    · rw [List.drop_of_length_le h] at hd; cases hd
  rw [List.drop_eq_getElem_cons (show j < l.zipIdx.length by simpa using hj), List.getElem_zipIdx]
  have : l[j] = a := getElem_of_drop hj hd
  rw [this, Nat.zero_add]
theorem run_dig (c : Nat) (hc : c < 10) (W : World) :
    Sem.run Tryd.prog (convert 122 9 (.slice (some ⟨W.heap.size, 0, none⟩) 1 1)) (W.alloc (.cells #[.int .u8 (48 + (c : Int))] 5)) = .ok (.string ⟨#[UInt8.ofNat (48 + c)]⟩) (W.alloc (.cells #[.int .u8 (48 + (c : Int))] 5)) := by
  refine run_convert_bytes_back (P := Tryd.prog) _ 122 9 5 ⟨W.heap.size, 0, none⟩ 1 [UInt8.ofNat (48 + c)] Tryd.underlying122 Tryd.underlying5 Tryd.underlying9 ?_
  intro j hj
  have hj : j < 1 := hj
  obtain rfl : j = 0 := by omega
  have e : ((UInt8.ofNat (48 + c)).toNat : Int) = 48 + (c : Int) := by
    have : (UInt8.ofNat (48 + c)).toNat = (48 + c) % 256 := by simp
    omega
  simp [go_sem, Addr.add]
  omega
theorem dig_split (n : Nat) : Lib.decDigits n = (if n < 10 then [] else Lib.decDigits (n / 10)) ++ [UInt8.ofNat (48 + n % 10)] := by
  rw [Lib.decDigits]
  split
  next h => rw [Nat.mod_eq_of_lt h]; rfl
  next h => rfl
end Go.Proofs.YtmncppnpppdfkaaDoor
