/- Names and keywords: token.Keyword, token.Name and the reference's. -/
import Derived.Test.YtoomlpalkinipaaDoorTokRun
import Derived.Test.YtoomlpalkinipaaDoorTokWalkAR
set_option linter.unusedVariables false
namespace Go.Proofs.YtoomlpalkinipaaDoor
open Go.RowKit
namespace Tk
/-- The keywords. -/
def words : List ByteArray := [⟨#[109, 111, 100, 117, 108, 101]⟩, ⟨#[114, 101, 99, 111, 114, 100]⟩, ⟨#[99, 104, 111, 105, 99, 101]⟩, ⟨#[115, 101, 114, 118, 105, 99, 101]⟩, ⟨#[115, 97, 103, 97]⟩, ⟨#[100, 111]⟩, ⟨#[97, 116]⟩, ⟨#[117, 110, 100, 111]⟩, ⟨#[103, 105, 118, 101]⟩, ⟨#[116, 97, 107, 101]⟩, ⟨#[110, 111, 116, 101]⟩, ⟨#[110, 111, 110, 101]⟩, ⟨#[98, 111, 111, 108]⟩, ⟨#[105, 110, 116]⟩, ⟨#[116, 101, 120, 116]⟩, ⟨#[108, 105, 115, 116]⟩, ⟨#[111, 112, 116]⟩]
/-- Is a text a keyword? -/
def isKw (s : ByteArray) : Bool := words.any (fun x => s.toList == x.toList)
/-- The table of keywords, as it lies: block 0. -/
def KW (w : World) : Prop := 0 < w.heap.size ∧ ∀ j, j < words.length → w.cell? ⟨0, 0 + j, none⟩ = some (.string (words.getD j ByteArray.empty))
theorem KW.below {w w' : World} (h : KW w) (hb : Below w.heap.size w w') : KW w' :=
  ⟨by have := hb.size; have := h.1; omega, fun j hj => by rw [hb.cell (p := ⟨0, 0 + j, none⟩) h.1]; exact h.2 j hj⟩
theorem KW.drewN {w : World} (h : KW w) (n : Nat) : KW (w.drewN n) := h
theorem text_eq {a b : ByteArray} (h : a.toList = b.toList) : a = b := by
  rw [ByteArray.toList_eq, ByteArray.toList_eq] at h
  have h2 := Array.toList_inj.1 h
  cases a
  cases b
  simp only at h2
  rw [h2]
theorem contains_kw (s : ByteArray) : Lib.containsS (words.take 17) s = isKw s := by
  rw [Bool.eq_iff_iff, Lib.containsS_iff]
  unfold isKw
  rw [List.any_eq_true]
  constructor
  · intro h
    exact ⟨s, h, beq_self_eq_true s.toList⟩
  · rintro ⟨x, hx, e⟩
    rw [text_eq (eq_of_beq e)]
    exact hx
/-- A text is a name. -/
def isName (s : ByteArray) : Bool := decide (1 ≤ s.size) && decide (s.size ≤ 32) && isLetter (byte s 0) && !isKw s && decide (runEnd isInner s 0 = s.size)
end Tk
set_option maxHeartbeats 1000000 in
theorem keyword_any (s : ByteArray) (w : World) (hk : Tk.KW w) :
    Calls Tryd.prog 68 #[.string s] w fun e w' => e = .returned (.bool (Tk.isKw s)) ∧ w' = w := by
  have HC := Lib.hid (Tryd.slices_Contains_string 0 0 17 17 Tk.words s w (by decide) (by decide) hk.2)
  have HK := Lib.hid (Tk.contains_kw s)
  go_enter Tryd.func68, Tryd.ntmps68
  go_wp2_with fail
  refine (HC.out).mono ?_
  rintro e w1 ⟨rfl, rfl⟩
  rw [HK.out]
  go_wp2_with fail
  go_ret
  exact ⟨rfl, rfl⟩
set_option maxHeartbeats 1000000 in
theorem rkw_0 (w : World) : Calls Tryd.prog 69 #[.string ⟨#[109, 111, 100, 117, 108, 101]⟩] w fun e w' => e = .returned (.bool true) ∧ w' = w := by
  go_enter Tryd.func69, Tryd.ntmps69
  go_wp2
  go_ret
  exact ⟨rfl, rfl⟩
set_option maxHeartbeats 1000000 in
theorem rkw_1 (w : World) : Calls Tryd.prog 69 #[.string ⟨#[114, 101, 99, 111, 114, 100]⟩] w fun e w' => e = .returned (.bool true) ∧ w' = w := by
  go_enter Tryd.func69, Tryd.ntmps69
  go_wp2
  go_ret
  exact ⟨rfl, rfl⟩
set_option maxHeartbeats 1000000 in
theorem rkw_2 (w : World) : Calls Tryd.prog 69 #[.string ⟨#[99, 104, 111, 105, 99, 101]⟩] w fun e w' => e = .returned (.bool true) ∧ w' = w := by
  go_enter Tryd.func69, Tryd.ntmps69
  go_wp2
  go_ret
  exact ⟨rfl, rfl⟩
set_option maxHeartbeats 1000000 in
theorem rkw_3 (w : World) : Calls Tryd.prog 69 #[.string ⟨#[115, 101, 114, 118, 105, 99, 101]⟩] w fun e w' => e = .returned (.bool true) ∧ w' = w := by
  go_enter Tryd.func69, Tryd.ntmps69
  go_wp2
  go_ret
  exact ⟨rfl, rfl⟩
set_option maxHeartbeats 1000000 in
theorem rkw_4 (w : World) : Calls Tryd.prog 69 #[.string ⟨#[115, 97, 103, 97]⟩] w fun e w' => e = .returned (.bool true) ∧ w' = w := by
  go_enter Tryd.func69, Tryd.ntmps69
  go_wp2
  go_ret
  exact ⟨rfl, rfl⟩
set_option maxHeartbeats 1000000 in
theorem rkw_5 (w : World) : Calls Tryd.prog 69 #[.string ⟨#[100, 111]⟩] w fun e w' => e = .returned (.bool true) ∧ w' = w := by
  go_enter Tryd.func69, Tryd.ntmps69
  go_wp2
  go_ret
  exact ⟨rfl, rfl⟩
set_option maxHeartbeats 1000000 in
theorem rkw_6 (w : World) : Calls Tryd.prog 69 #[.string ⟨#[97, 116]⟩] w fun e w' => e = .returned (.bool true) ∧ w' = w := by
  go_enter Tryd.func69, Tryd.ntmps69
  go_wp2
  go_ret
  exact ⟨rfl, rfl⟩
set_option maxHeartbeats 1000000 in
theorem rkw_7 (w : World) : Calls Tryd.prog 69 #[.string ⟨#[117, 110, 100, 111]⟩] w fun e w' => e = .returned (.bool true) ∧ w' = w := by
  go_enter Tryd.func69, Tryd.ntmps69
  go_wp2
  go_ret
  exact ⟨rfl, rfl⟩
set_option maxHeartbeats 1000000 in
theorem rkw_8 (w : World) : Calls Tryd.prog 69 #[.string ⟨#[103, 105, 118, 101]⟩] w fun e w' => e = .returned (.bool true) ∧ w' = w := by
  go_enter Tryd.func69, Tryd.ntmps69
  go_wp2
  go_ret
  exact ⟨rfl, rfl⟩
set_option maxHeartbeats 1000000 in
theorem rkw_9 (w : World) : Calls Tryd.prog 69 #[.string ⟨#[116, 97, 107, 101]⟩] w fun e w' => e = .returned (.bool true) ∧ w' = w := by
  go_enter Tryd.func69, Tryd.ntmps69
  go_wp2
  go_ret
  exact ⟨rfl, rfl⟩
set_option maxHeartbeats 1000000 in
theorem rkw_10 (w : World) : Calls Tryd.prog 69 #[.string ⟨#[110, 111, 116, 101]⟩] w fun e w' => e = .returned (.bool true) ∧ w' = w := by
  go_enter Tryd.func69, Tryd.ntmps69
  go_wp2
  go_ret
  exact ⟨rfl, rfl⟩
set_option maxHeartbeats 1000000 in
theorem rkw_11 (w : World) : Calls Tryd.prog 69 #[.string ⟨#[110, 111, 110, 101]⟩] w fun e w' => e = .returned (.bool true) ∧ w' = w := by
  go_enter Tryd.func69, Tryd.ntmps69
  go_wp2
  go_ret
  exact ⟨rfl, rfl⟩
set_option maxHeartbeats 1000000 in
theorem rkw_12 (w : World) : Calls Tryd.prog 69 #[.string ⟨#[98, 111, 111, 108]⟩] w fun e w' => e = .returned (.bool true) ∧ w' = w := by
  go_enter Tryd.func69, Tryd.ntmps69
  go_wp2
  go_ret
  exact ⟨rfl, rfl⟩
set_option maxHeartbeats 1000000 in
theorem rkw_13 (w : World) : Calls Tryd.prog 69 #[.string ⟨#[105, 110, 116]⟩] w fun e w' => e = .returned (.bool true) ∧ w' = w := by
  go_enter Tryd.func69, Tryd.ntmps69
  go_wp2
  go_ret
  exact ⟨rfl, rfl⟩
set_option maxHeartbeats 1000000 in
theorem rkw_14 (w : World) : Calls Tryd.prog 69 #[.string ⟨#[116, 101, 120, 116]⟩] w fun e w' => e = .returned (.bool true) ∧ w' = w := by
  go_enter Tryd.func69, Tryd.ntmps69
  go_wp2
  go_ret
  exact ⟨rfl, rfl⟩
set_option maxHeartbeats 1000000 in
theorem rkw_15 (w : World) : Calls Tryd.prog 69 #[.string ⟨#[108, 105, 115, 116]⟩] w fun e w' => e = .returned (.bool true) ∧ w' = w := by
  go_enter Tryd.func69, Tryd.ntmps69
  go_wp2
  go_ret
  exact ⟨rfl, rfl⟩
set_option maxHeartbeats 1000000 in
theorem rkw_16 (w : World) : Calls Tryd.prog 69 #[.string ⟨#[111, 112, 116]⟩] w fun e w' => e = .returned (.bool true) ∧ w' = w := by
  go_enter Tryd.func69, Tryd.ntmps69
  go_wp2
  go_ret
  exact ⟨rfl, rfl⟩
set_option maxHeartbeats 1000000 in
theorem rkw_no (s : ByteArray) (w : World) (h0 : (s.toList == [109, 111, 100, 117, 108, 101]) = false) (h1 : (s.toList == [114, 101, 99, 111, 114, 100]) = false) (h2 : (s.toList == [99, 104, 111, 105, 99, 101]) = false) (h3 : (s.toList == [115, 101, 114, 118, 105, 99, 101]) = false) (h4 : (s.toList == [115, 97, 103, 97]) = false) (h5 : (s.toList == [100, 111]) = false) (h6 : (s.toList == [97, 116]) = false) (h7 : (s.toList == [117, 110, 100, 111]) = false) (h8 : (s.toList == [103, 105, 118, 101]) = false) (h9 : (s.toList == [116, 97, 107, 101]) = false) (h10 : (s.toList == [110, 111, 116, 101]) = false) (h11 : (s.toList == [110, 111, 110, 101]) = false) (h12 : (s.toList == [98, 111, 111, 108]) = false) (h13 : (s.toList == [105, 110, 116]) = false) (h14 : (s.toList == [116, 101, 120, 116]) = false) (h15 : (s.toList == [108, 105, 115, 116]) = false) (h16 : (s.toList == [111, 112, 116]) = false) :
    Calls Tryd.prog 69 #[.string s] w fun e w' => e = .returned (.bool false) ∧ w' = w := by
  go_enter Tryd.func69, Tryd.ntmps69
  go_wp2
  go_ret
  exact ⟨rfl, rfl⟩
theorem rkeyword_any (s : ByteArray) (w : World) :
    Calls Tryd.prog 69 #[.string s] w fun e w' => e = .returned (.bool (Tk.isKw s)) ∧ w' = w := by
  cases hk : Tk.isKw s
  · unfold Tk.isKw Tk.words at hk
    simp only [List.any_cons, List.any_nil, Bool.or_false, Bool.or_eq_false_iff, ByteArray.toList_mk] at hk
    obtain ⟨h0, h1, h2, h3, h4, h5, h6, h7, h8, h9, h10, h11, h12, h13, h14, h15, h16⟩ := hk
    exact rkw_no s w h0 h1 h2 h3 h4 h5 h6 h7 h8 h9 h10 h11 h12 h13 h14 h15 h16
  · unfold Tk.isKw Tk.words at hk
    simp only [List.any_cons, List.any_nil, Bool.or_false, Bool.or_eq_true, beq_iff_eq] at hk
    rcases hk with h | h | h | h | h | h | h | h | h | h | h | h | h | h | h | h | h
    · rw [Tk.text_eq h]; exact rkw_0 w
    · rw [Tk.text_eq h]; exact rkw_1 w
    · rw [Tk.text_eq h]; exact rkw_2 w
    · rw [Tk.text_eq h]; exact rkw_3 w
    · rw [Tk.text_eq h]; exact rkw_4 w
    · rw [Tk.text_eq h]; exact rkw_5 w
    · rw [Tk.text_eq h]; exact rkw_6 w
    · rw [Tk.text_eq h]; exact rkw_7 w
    · rw [Tk.text_eq h]; exact rkw_8 w
    · rw [Tk.text_eq h]; exact rkw_9 w
    · rw [Tk.text_eq h]; exact rkw_10 w
    · rw [Tk.text_eq h]; exact rkw_11 w
    · rw [Tk.text_eq h]; exact rkw_12 w
    · rw [Tk.text_eq h]; exact rkw_13 w
    · rw [Tk.text_eq h]; exact rkw_14 w
    · rw [Tk.text_eq h]; exact rkw_15 w
    · rw [Tk.text_eq h]; exact rkw_16 w
end Go.Proofs.YtoomlpalkinipaaDoor
