/- Chapter 17, plain: what is read of bytes has just these bytes; lengths; a block of ten cells. -/
import Derived.Test.YtjhejnhjpjmnmaaDoorEnvW2
import Derived.Test.YtjhejnhjpjmnmaaDoorEnvOpen
set_option linter.unusedVariables false
namespace Go.Proofs.YtjhejnhjpjmnmaaDoor
open Go.RowKit
theorem Bk.ten {w : World} {g : Nat} {t : TypeId} {a0 a1 a2 a3 a4 a5 a6 a7 a8 a9 : Value} (h : Bk w g t #[a0, a1, a2, a3, a4, a5, a6, a7, a8, a9]) :
    w.cell? ⟨g, 0, none⟩ = some a0 ∧ w.cell? ⟨g, 1, none⟩ = some a1 ∧ w.cell? ⟨g, 2, none⟩ = some a2 ∧ w.cell? ⟨g, 3, none⟩ = some a3 ∧ w.cell? ⟨g, 4, none⟩ = some a4 ∧ w.cell? ⟨g, 5, none⟩ = some a5 ∧ w.cell? ⟨g, 6, none⟩ = some a6 ∧ w.cell? ⟨g, 7, none⟩ = some a7 ∧ w.cell? ⟨g, 8, none⟩ = some a8 ∧ w.cell? ⟨g, 9, none⟩ = some a9 :=
  ⟨h.cell 0, h.cell 1, h.cell 2, h.cell 3, h.cell 4, h.cell 5, h.cell 6, h.cell 7, h.cell 8, h.cell 9⟩
namespace Ev
theorem great_no {l : Letter} (h : great l = false) : l.key.size ≤ 6000 ∧ l.svc.size ≤ 6000 ∧ l.mth.size ≤ 6000 ∧ l.body.size ≤ 6000 := by
  unfold great at h
  simp only [Bool.or_eq_false_iff, decide_eq_false_iff_not] at h
  omega
theorem parse_ok (h : ByteArray) : (parse h).1.ok := by
  unfold parse Letter.ok
  refine ⟨(one_sz _).2, (num_facts _).1, ?_⟩
  show (if _ then 0 else _) < _
  split
  · decide
  · exact bigv_lt _ _ (by decide)
theorem txt_len (s : ByteArray) : (txt s).length ≤ 10 + s.size := by
  unfold txt
  rw [List.length_append]
  have := (var_len s.size).2
  have : s.data.toList.length = s.size := by simp
  omega
theorem bytes_len {l : Letter} (h : right l = true) : (bytes l).length ≤ 5000 ∧ 1 ≤ (bytes l).length := by
  obtain ⟨_, _, _, _, _, _, _, f8, f9⟩ := right_facts h
  have hn := right_names h
  have a1 := (var_len l.seq).2
  have a2 := txt_len l.key
  have a3 := big_len l.print 8
  have a4 := txt_len l.svc
  have a5 := txt_len l.mth
  have a6 := (var_len l.code.toNat).2
  have a7 := txt_len l.body
  have a8 : (Sm.le4 (Sm.crc (head l))).length = 4 := rfl
  unfold bytes
  rw [List.length_append, a8]
  unfold head
  simp only [List.length_append, List.length_cons, List.length_nil]
  omega
theorem readP_cases (b : ByteArray) : (∃ r : Letter, readP b = (r, 0) ∧ r.ok ∧ right r = true ∧ pack r = (b, 0)) ∨ (∃ n, readP b = (Letter.zero, n) ∧ 1 ≤ n) := by
  unfold readP
  split
  · simp only
    split
    · rename_i h
      refine .inl ⟨_, rfl, parse_ok _, h.2.1, ?_⟩
      rw [pack_yes h.2.1]
      exact congrArg (·, 0) h.2.2
    · exact .inr ⟨162, rfl, by decide⟩
  · exact .inr ⟨8, rfl, by decide⟩
end Ev
end Go.Proofs.YtjhejnhjpjmnmaaDoor
