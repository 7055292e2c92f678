/- prints, plain: the tokens of a text that is joined by single blanks. (Its first part is taken from XTokBackMath.) No condition. -/
import Derived.Test.YtmncppnpppdfkaaGreatDoorPTTokJoinMath
set_option linter.unusedVariables false
set_option linter.unusedSimpArgs false
namespace Go.Proofs.YtmncppnpppdfkaaGreatDoor
namespace Tk
theorem bytes_eq {a b : ByteArray} (h : a.data.toList = b.data.toList) : a = b := by
  have h3 : a.data = b.data := Array.toList_inj.1 h
  cases a; cases b
  simp only at h3
  rw [h3]
theorem extract_self (s : ByteArray) : s.extract 0 s.size = s := by
  apply bytes_eq
  rw [Lib.extract_data, List.drop_zero, Nat.sub_zero]
  exact List.take_of_length_le (by simp)
def placed : List Tok → Nat → List Tok
  | [], _ => []
  | t :: l, k => { t with at_ := k } :: placed l (k + t.text.size + 1)
def Owns (l : List Tok) : Prop := ∀ t ∈ l, 0 < t.text.size ∧ oneAt 3 t.text 0 = ({ t with at_ := 0 }, 0)
end Tk
end Go.Proofs.YtmncppnpppdfkaaGreatDoor
