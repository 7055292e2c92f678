/- '[]byte(s)', a byte stored, 'string(b)': the cells told by a list of bytes. No condition. -/
import Derived.Test.YtdjccepchleacaaBase
set_option linter.unusedVariables false
namespace Go.Proofs.Ytdjccepchleacaa
open Go.RowKit
/-- The first cells of a block are these bytes, and may be written. -/
structure BytesAt (w : World) (g : Nat) (l : List UInt8) : Prop where
  cell : ∀ j (hj : j < l.length), w.cell? ⟨g, j, none⟩ = some (.int .u8 (l[j].toNat : Int))
  free : ∀ j, j < l.length → w.frozen? ⟨g, j, none⟩ = false
theorem BytesAt.drewN {w : World} {g : Nat} {l : List UInt8} (h : BytesAt w g l) (n : Nat) : BytesAt (w.drewN n) g l := ⟨h.cell, h.free⟩
theorem BytesAt.below {w w' : World} {g B : Nat} {l : List UInt8} (h : BytesAt w g l) (hb : Below B w w') (hg : g < B) : BytesAt w' g l :=
  ⟨fun j hj => (hb.cell (p := ⟨g, j, none⟩) hg).trans (h.cell j hj), fun j hj => (hb.frozen (p := ⟨g, j, none⟩) hg).trans (h.free j hj)⟩
theorem BytesAt.set {w : World} {g : Nat} {l : List UInt8} (h : BytesAt w g l) (k : Nat) (x : UInt8) (hk : k < l.length) : BytesAt (w.setCell ⟨g, k, none⟩ (.int .u8 (x.toNat : Int))) g (l.set k x) := by
  constructor
  · intro j hj
    have hj' : j < l.length := by simpa using hj
    by_cases e : k = j
    · subst e
      rw [World.cell?_setCell_same' _ _ _ (by rw [h.cell _ hk]; rfl)]
      simp
    · rw [World.cell?_setCell_other _ _ _ _ (by intro he; injection he with _ h2; exact e h2), h.cell j hj']
      rw [List.getElem_set_ne e]
  · intro j hj
    rw [World.frozen?_setCell]
    exact h.free j (by simpa using hj)
theorem bytes_of_string (w : World) (s : ByteArray) : ∃ cap w2, Sem.run Try.prog (convert 9 40 (.string s)) w = .ok (.slice (some ⟨w.heap.size, 0, none⟩) s.size cap) w2 ∧
    BytesAt w2 w.heap.size s.data.toList ∧ Below w.heap.size w w2 ∧ w.heap.size < w2.heap.size ∧ s.size ≤ cap := by
  refine ⟨_, _, run_bytes_of_string (P := Try.prog) w 9 40 5 s Try.underlying9 Try.underlying40 Try.underlying5, ?_, ?_, ?_, ?_⟩
  · constructor
    · intro j hj
      have hj' : j < s.size := by simpa using hj
      show (w.drew.alloc _).cell? ⟨w.drew.heap.size, j, none⟩ = _
      rw [World.cell?_alloc_mark]
      have hjd : j < s.data.size := hj'
      unfold bytesRow
      rw [Array.getElem?_append_left (by simpa using hjd)]
      rw [Array.getElem?_map, Array.getElem?_eq_getElem hjd]
      rfl
    · intro j hj
      have hj' : j < s.size := by simpa using hj
      have hh : (w.drew.alloc (.cells (bytesRow s (grownCap w s.size 0 5)) 5 ((bytesRow s (grownCap w s.size 0 5)).size, (bytesRow s (grownCap w s.size 0 5)).size + 1))).heap[w.heap.size]? = some (.cells (bytesRow s (grownCap w s.size 0 5)) 5 ((bytesRow s (grownCap w s.size 0 5)).size, (bytesRow s (grownCap w s.size 0 5)).size + 1)) := heap_alloc_new w.drew _
      have hsz : s.size ≤ (bytesRow s (grownCap w s.size 0 5)).size := by simp [bytesRow]
      unfold World.frozen?
      rw [hh]
      simp
      omega
  · exact ((Below.refl _ w).drew).alloc (Nat.le_refl _) _
  · simp
  · exact grownCap_ge w s.size 0 _
theorem bytes_of_list (w : World) (l : List UInt8) : ∃ cap w2, Sem.run Try.prog (convert 9 40 (.string ⟨l.toArray⟩)) w = .ok (.slice (some ⟨w.heap.size, 0, none⟩) l.length cap) w2 ∧
    BytesAt w2 w.heap.size l ∧ Below w.heap.size w w2 ∧ w.heap.size < w2.heap.size ∧ l.length ≤ cap := by
  have h := bytes_of_string w ⟨l.toArray⟩
  have e : (⟨l.toArray⟩ : ByteArray).size = l.length := by simp [ByteArray.size]
  rw [e] at h
  exact h
theorem info_byte : (Try.prog.info? 5).map (fun i => (i.zero, i.size, i.bytes)) = some (some (.int .u8 0), 1, 1) := by kernel_rfl
theorem make_bytes (w : World) (kl kc : IntKind) (n : Nat) (hn : n ≤ 140737488355328) : ∃ w2, Sem.run Try.prog (Instr.makeSlice 40 (.int kl n) (.int kc n)) w = .ok (.slice (some ⟨w.heap.size, 0, none⟩) n n) w2 ∧
    BytesAt w2 w.heap.size (List.replicate n 0) ∧ Below w.heap.size w w2 ∧ w.heap.size < w2.heap.size := by
  obtain ⟨i, hi0, hz0, hz1, hz2⟩ := info_parts info_byte
  have h := run_make (P := Try.prog) w 40 5 i _ Try.underlying40 hi0 hz0 kl kc n n (by omega) (Int.le_refl _) (by rw [hz2]; omega) (by omega)
  simp only [Int.toNat_natCast] at h
  rw [hz1, Nat.mul_one] at h
  refine ⟨_, h, ?_, (Below.refl _ w).alloc (Nat.le_refl _) _, by simp⟩
  have hr := World.rowIs_made w (.int .u8 0) n 5
  constructor
  · intro j hj
    have hj' : j < n := by simpa using hj
    rw [List.getElem_replicate]
    exact hr.cell hj'
  · intro j hj
    exact hr.frozen j
theorem xor_byte (x c : Nat) (hx : x < 256) (hc : c < 256) : bits .xor .u8 (x : Int) (c : Int) = (((UInt8.ofNat (x ^^^ c)).toNat : Nat) : Int) := by
  have hlt : x ^^^ c < 256 := Nat.xor_lt_two_pow (n := 8) hx hc
  have e : (UInt8.ofNat (x ^^^ c)).toNat = x ^^^ c := by
    rw [UInt8.toNat_ofNat']
    omega
  rw [u8_xor_nat x c hx hc, e]
theorem xor_byte_ne (x : UInt8) (c : Nat) (hc : c < 256) (h0 : c ≠ 0) : UInt8.ofNat (x.toNat ^^^ c) ≠ x := by
  intro h
  have hlt : x.toNat ^^^ c < 256 := Nat.xor_lt_two_pow (n := 8) x.toNat_lt hc
  have e : (UInt8.ofNat (x.toNat ^^^ c)).toNat = x.toNat ^^^ c := by
    rw [UInt8.toNat_ofNat']
    omega
  have h2 : x.toNat ^^^ c = x.toNat := by rw [← e, h]
  have h3 : x.toNat ^^^ (x.toNat ^^^ c) = x.toNat ^^^ x.toNat := by rw [h2]
  rw [← Nat.xor_assoc, Nat.xor_self, Nat.zero_xor] at h3
  exact h0 h3
theorem string_of_bytes {w : World} {g : Nat} {l : List UInt8} (h : BytesAt w g l) (cap : Nat) : Sem.run Try.prog (convert 40 9 (.slice (some ⟨g, 0, none⟩) l.length cap)) w = .ok (.string ⟨l.toArray⟩) w := by
  refine run_convert_bytes_back (P := Try.prog) w 40 9 5 ⟨g, 0, none⟩ cap l Try.underlying40 Try.underlying5 Try.underlying9 ?_
  intro j hj
  rw [← h.cell j hj]
  unfold Addr.add
  split
  · simp_all
  · simp
end Go.Proofs.Ytdjccepchleacaa
