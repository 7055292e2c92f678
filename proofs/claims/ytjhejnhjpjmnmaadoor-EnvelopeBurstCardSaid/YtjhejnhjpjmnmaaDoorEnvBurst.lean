/- EnvelopeBurst: a letter of which some bytes in a row, four at most, are others is not read. -/
import Derived.Test.YtjhejnhjpjmnmaaDoorEnvFacts
import Derived.Test.YtjhejnhjpjmnmaaDoorEnvBMath
import Derived.Test.YtjhejnhjpjmnmaaDoorBytes
set_option linter.unusedVariables false
namespace Go.Proofs.YtjhejnhjpjmnmaaDoor
open Go.RowKit
namespace Ev
/-- The same but for four places in a row. -/
def Near (K : Nat) (cs L : List UInt8) : Prop := L.length = cs.length ∧ ∀ j, j < K ∨ K + 4 ≤ j → L[j]? = cs[j]?
theorem Near.refl (K : Nat) (cs : List UInt8) : Near K cs cs := ⟨rfl, fun _ _ => rfl⟩
theorem Near.set {K : Nat} {cs L : List UInt8} (h : Near K cs L) (k : Nat) (hk : k < 4) (x : UInt8) : Near K cs (L.set (K + k) x) :=
  ⟨by rw [List.length_set]; exact h.1, fun j hj => by rw [List.getElem?_set_ne (by omega)]; exact h.2 j hj⟩
end Ev
set_option maxRecDepth 100000 in
set_option maxHeartbeats 8000000 in
theorem burst_walk (l : Ev.Letter) (a : Int) (x0 x1 x2 x3 : Nat) (h0 : l.ok) (hx : (Lit.int .i64 l.from_).wf = true) (hy : (Lit.int .i64 l.to_).wf = true) (hz : (Lit.int .i64 l.code).wf = true)
    (hs : l.key.size ≤ maxLen) (hu : l.svc.size ≤ maxLen) (hm : l.mth.size ≤ maxLen) (hb : l.body.size ≤ maxLen) (ha : (Lit.int .u16 a).wf = true) (g0 : x0 < 256) (g1 : x1 < 256) (g2 : x2 < 256) (g3 : x3 < 256) (w : World) (hk : Tk.KW w) :
    Calls Tryd.prog 6 #[l.val, .int .u16 a, .agg #[.int .u8 x0, .int .u8 x1, .int .u8 x2, .int .u8 x3]] w fun e w' => e = .returned (.bool true) ∧ Below w.heap.size w w' := by
  have HG := Lib.hid (fun w' => great_any l w')
  have ha2 : 0 ≤ a ∧ a ≤ 65535 := by simpa [Lit.wf, IntKind.min, IntKind.max, IntKind.signed, IntKind.bits] using ha
  clear hx hy hz hs hu hm hb ha
  have hbox : ∀ o p : Obj, Below w.heap.size w ((w.alloc o).alloc p) := fun o p => ((Below.refl w.heap.size w).alloc (Nat.le_refl _) _).alloc (by simp) _
  cases hg : Ev.great l with
  | true =>
    rw [hg] at HG
    obtain ⟨k0, k1, k2, k3, k4, k5, k6, k7, k8, k9⟩ := l
    clear h0 hg
    unfold Ev.Letter.val at HG ⊢
    go_enter Tryd.func6, Tryd.ntmps6
    go_wp2_with fail
    refine (HG.out _).mono ?_
    rintro e w1 ⟨rfl, hb1⟩
    have hbA : Below w.heap.size w w1 := (hbox _ _).trans (hb1.mono (by simp; omega))
    clear hb1
    go_wp2_with fail
    refine (wakes_any _ (hk.below hbA)).mono ?_
    rintro e w2 ⟨rfl, hb2⟩
    go_wp2_with fail
    go_ret
    exact ⟨rfl, bl_join hbA hb2⟩
  | false =>
    rw [hg] at HG
    obtain ⟨z4, z6, z7, z9⟩ := Ev.great_no hg
    clear hg
    have HP := pack_any l h0 ⟨by omega, by omega⟩
    cases hr : Ev.right l with
    | false =>
      rw [Ev.pack_no hr] at HP
      obtain ⟨k0, k1, k2, k3, k4, k5, k6, k7, k8, k9⟩ := l
      clear h0 hr z4 z6 z7 z9
      unfold Ev.Letter.val at HG HP ⊢
      replace HP := Lib.hid HP
      go_enter Tryd.func6, Tryd.ntmps6
      go_wp2_with fail
      refine (HG.out _).mono ?_
      rintro e w1 ⟨rfl, hb1⟩
      have hbA : Below w.heap.size w w1 := (hbox _ _).trans (hb1.mono (by simp; omega))
      have hq : Bk w1 w.heap.size 24 #[.int .u8 k0, .int .i64 k1, .int .i64 k2, .int .u64 k3, .string k4, .int .u64 k5, .string k6, .string k7, .int .i64 k8, .string k9] := ((Bk.new w 24 #[.int .u8 k0, .int .i64 k1, .int .i64 k2, .int .u64 k3, .string k4, .int .u64 k5, .string k6, .string k7, .int .i64 k8, .string k9]).alloc _).below hb1 (by simp; omega)
      clear hb1 HG
      obtain ⟨c0, c1, c2, c3, c4, c5, c6, c7, c8, c9⟩ := hq.ten
      go_wp2_with fail
      refine (HP.out _ (hk.below hbA)).mono ?_
      rintro e w2 ⟨rfl, hb2⟩
      have hbB := bl_join hbA hb2
      clear hb2 hbA c0 c1 c2 c3 c4 c5 c6 c7 c8 c9 hq HP
      go_wp2_with fail
      refine (wakes_any _ (hk.below hbB)).mono ?_
      rintro e w3 ⟨rfl, hb3⟩
      go_wp2_with fail
      go_ret
      exact ⟨rfl, bl_join hbB hb3⟩
    | true =>
      rw [Ev.pack_yes hr] at HP
      obtain ⟨hn5, hn1⟩ := Ev.bytes_len hr
      have HC := Lib.hid (Ev.crcOk_bytes l).1
      generalize Ev.bytes l = cs at HP hn5 hn1 HC
      obtain ⟨k0, k1, k2, k3, k4, k5, k6, k7, k8, k9⟩ := l
      clear h0 hr z4 z6 z7 z9
      unfold Ev.Letter.val at HG HP ⊢
      replace HP := Lib.hid HP
      go_enter Tryd.func6, Tryd.ntmps6
      go_wp2_with fail
      refine (HG.out _).mono ?_
      rintro e w1 ⟨rfl, hb1⟩
      have hbA : Below w.heap.size w w1 := (hbox _ _).trans (hb1.mono (by simp; omega))
      have hq : Bk w1 w.heap.size 24 #[.int .u8 k0, .int .i64 k1, .int .i64 k2, .int .u64 k3, .string k4, .int .u64 k5, .string k6, .string k7, .int .i64 k8, .string k9] := ((Bk.new w 24 #[.int .u8 k0, .int .i64 k1, .int .i64 k2, .int .u64 k3, .string k4, .int .u64 k5, .string k6, .string k7, .int .i64 k8, .string k9]).alloc _).below hb1 (by simp; omega)
      have hq4 : Bk w1 (w.heap.size + 1) 36 #[.int .u8 x0, .int .u8 x1, .int .u8 x2, .int .u8 x3] := Bk.below (by have := Bk.new (w.alloc (.cells #[.int .u8 k0, .int .i64 k1, .int .i64 k2, .int .u64 k3, .string k4, .int .u64 k5, .string k6, .string k7, .int .i64 k8, .string k9] 24)) 36 #[.int .u8 x0, .int .u8 x1, .int .u8 x2, .int .u8 x3]; rwa [World.size_alloc] at this) hb1 (by simp)
      clear hb1 HG
      obtain ⟨c0, c1, c2, c3, c4, c5, c6, c7, c8, c9⟩ := hq.ten
      go_wp2_with fail
      refine (HP.out _ (hk.below hbA)).mono ?_
      rintro e w2 ⟨rfl, hb2⟩
      have hbB := bl_join hbA hb2
      replace hq4 := hq4.below hb2 hq4.lt
      clear hb2 hbA c0 c1 c2 c3 c4 c5 c6 c7 c8 c9 hq HP
      obtain ⟨cap, w3, hrun, hby, hb3, hlt3, hcap⟩ := bytes_of_list w2 cs
      have hsz : (⟨cs.toArray⟩ : ByteArray).size = cs.length := by simp [ByteArray.size]
      obtain ⟨K, hK⟩ : ∃ K : Nat, a.tmod (cs.length : Int) = (K : Int) := ⟨(a.tmod cs.length).toNat, by have := Int.tmod_nonneg (cs.length : Int) ha2.1; omega⟩
      have hKn : K < cs.length := by have := Int.tmod_lt_of_pos a (show (0 : Int) < cs.length by omega); omega
      have hcs0 : ((cs.length : Int) == 0) = false := by rw [beq_eq_false_iff_ne]; omega
      have hcs1 : ¬ (cs.length : Int) = 0 := by omega
      have hN : (cs.length : Int) ≤ 9223372036854775807 := by omega
      go_wp2
      have hq3 := hq4.below hb3 (Nat.lt_of_lt_of_le hq4.lt (Nat.le_refl _))
      have hgl : w.heap.size + 1 < w2.heap.size := hq4.lt
      have hbC := bl_join hbB hb3
      clear hrun hq4 hbB hcs0
      go_loopw [11] (fun i wr => ∃ (k : Nat) (L : List UInt8), k ≤ 4 ∧ i = .int .i64 k ∧ Hid (Ev.Near K cs L) ∧ Hid (BytesAt wr w2.heap.size L) ∧ Below w2.heap.size w3 wr) (fun i _ => 4 - (intOf i).toNat)
      case atStart => exact ⟨0, cs, by omega, rfl, Lib.hid (Ev.Near.refl K cs), Lib.hid hby, Below.refl _ _⟩
      case round =>
        obtain ⟨k, L, hk4, rfl, HNr, HBy, hbl⟩ := hrel
        have hLn := HNr.out.1
        have hKk : ((K : Int) + (k : Int)) ≤ 9223372036854775807 := by omega
        by_cases hlt : k < 4
        · by_cases hin : K + k < cs.length
          · have hin2 : (K : Int) + k < cs.length := by omega
            have hq5 := hq3.below hbl (by omega)
            obtain ⟨y, hy, hcy⟩ : ∃ y : Nat, y < 256 ∧ wr.cell? ⟨w.heap.size + 1, k, none⟩ = some (.int .u8 y) := (by
              rcases (show k = 0 ∨ k = 1 ∨ k = 2 ∨ k = 3 by omega) with rfl | rfl | rfl | rfl
              · exact ⟨x0, g0, hq5.cell 0⟩
              · exact ⟨x1, g1, hq5.cell 1⟩
              · exact ⟨x2, g2, hq5.cell 2⟩
              · exact ⟨x3, g3, hq5.cell 3⟩)
            have hKL : K + k < L.length := by omega
            have hcb := HBy.out.cell (K + k) hKL
            have hfb := HBy.out.free (K + k) hKL
            have hcast : ((K : Int) + (k : Int)).toNat = K + k := by omega
            have hxor := xor_byte L[K + k].toNat y L[K + k].toNat_lt hy
            go_wp2_with fail
            go_region
            go_wp2_with fail
            go_roundw
            case rel =>
              have hx8 : L[K + k].toNat ^^^ y % 256 = (UInt8.ofNat (L[K + k].toNat ^^^ y)).toNat := by
                have := Nat.xor_lt_two_pow (n := 8) L[K + k].toNat_lt hy
                rw [Sm.ofNat_toNat, Nat.mod_eq_of_lt hy]
                omega
              refine ⟨k + 1, L.set (K + k) (UInt8.ofNat (L[K + k].toNat ^^^ y)), by omega, by congr 1, Lib.hid (HNr.out.set k hlt _), Lib.hid ?_, ?_⟩
              · rw [hx8]
                exact (HBy.out.set (K + k) _ hKL).drewN 1
              · exact (hbl.setCell (p := ⟨w2.heap.size, K + k, none⟩) (Nat.le_refl _) _).drew
            case measure => simp [intOf]; omega
          · have hin2 : ¬ (K : Int) + k < cs.length := by omega
            have hbE : Below w.heap.size w wr := hbC.trans (hbl.mono (by omega))
            have hrun2 := string_of_bytes HBy.out cap
            rw [hLn] at hrun2
            have HBM := Lib.hid (fun hne => Ev.burst_bad (b := L) K HC.out hLn HNr.out.2 hne)
            have hL5 : (⟨L.toArray⟩ : ByteArray).size ≤ 10000 := by show L.toArray.size ≤ _; rw [List.size_toArray]; omega
            have HRX := read_any ⟨L.toArray⟩ hL5
            clear hKk hq3 hgl hbC hbl HBy HNr hby hb3 hlt3 hcap hsz hK hcs1 hN
            by_cases hE : L = cs
            · subst hE
              go_wp2_with fail
              refine (wakes_any _ (hk.below hbE)).mono ?_
              rintro e w4 ⟨rfl, hb4⟩
              have hbF := bl_join hbE hb4
              clear hb4 hbE
              go_wp2_with fail
              go_ret
              exact ⟨rfl, hbF⟩
            · have hb2 := HBM.out hE
              have hR : Ev.readP ⟨L.toArray⟩ = (Ev.Letter.zero, 8) := Ev.readP_bad hb2
              rw [hR] at HRX
              replace HRX := Lib.hid HRX
              have hEs : (L == cs) = false := by rw [beq_eq_false_iff_ne]; exact hE
              clear hb2 hR HBM hL5 HC
              go_wp2_with fail
              refine (HRX.out _ (hk.below hbE)).mono ?_
              rintro e w4 ⟨rfl, hb4⟩
              have hbF := bl_join hbE hb4
              clear hb4 hbE HRX
              unfold Ev.Letter.val Ev.Letter.zero
              simp only
              go_wp2_with fail
              have hbG : Below w.heap.size w _ := hbF.alloc hbF.size (.cells #[.int .u8 0, .int .i64 0, .int .i64 0, .int .u64 0, .string ByteArray.empty, .int .u64 0, .string ByteArray.empty, .string ByteArray.empty, .int .i64 0, .string ByteArray.empty] 24)
              generalize (w4.alloc (.cells #[.int .u8 0, .int .i64 0, .int .i64 0, .int .u64 0, .string ByteArray.empty, .int .u64 0, .string ByteArray.empty, .string ByteArray.empty, .int .i64 0, .string ByteArray.empty] 24)) = w5 at hbG ⊢
              clear hbF
              refine (wakes_any _ (hk.below hbG)).mono ?_
              rintro e w6 ⟨rfl, hb6⟩
              have hbH := bl_join hbG hb6
              clear hb6 hbG
              go_wp2_with fail
              go_ret
              exact ⟨rfl, hbH⟩
        · obtain rfl : k = 4 := by omega
          have hbE : Below w.heap.size w wr := hbC.trans (hbl.mono (by omega))
          have hrun2 := string_of_bytes HBy.out cap
          rw [hLn] at hrun2
          have HBM := Lib.hid (fun hne => Ev.burst_bad (b := L) K HC.out hLn HNr.out.2 hne)
          have hL5 : (⟨L.toArray⟩ : ByteArray).size ≤ 10000 := by show L.toArray.size ≤ _; rw [List.size_toArray]; omega
          have HRX := read_any ⟨L.toArray⟩ hL5
          clear hKk hq3 hgl hbC hbl HBy HNr hby hb3 hlt3 hcap hsz hK hcs1 hN
          by_cases hE : L = cs
          · subst hE
            go_wp2_with fail
            refine (wakes_any _ (hk.below hbE)).mono ?_
            rintro e w4 ⟨rfl, hb4⟩
            have hbF := bl_join hbE hb4
            clear hb4 hbE
            go_wp2_with fail
            go_ret
            exact ⟨rfl, hbF⟩
          · have hb2 := HBM.out hE
            have hR : Ev.readP ⟨L.toArray⟩ = (Ev.Letter.zero, 8) := Ev.readP_bad hb2
            rw [hR] at HRX
            replace HRX := Lib.hid HRX
            have hEs : (L == cs) = false := by rw [beq_eq_false_iff_ne]; exact hE
            clear hb2 hR HBM hL5 HC
            go_wp2_with fail
            refine (HRX.out _ (hk.below hbE)).mono ?_
            rintro e w4 ⟨rfl, hb4⟩
            have hbF := bl_join hbE hb4
            clear hb4 hbE HRX
            unfold Ev.Letter.val Ev.Letter.zero
            simp only
            go_wp2_with fail
            have hbG : Below w.heap.size w _ := hbF.alloc hbF.size (.cells #[.int .u8 0, .int .i64 0, .int .i64 0, .int .u64 0, .string ByteArray.empty, .int .u64 0, .string ByteArray.empty, .string ByteArray.empty, .int .i64 0, .string ByteArray.empty] 24)
            generalize (w4.alloc (.cells #[.int .u8 0, .int .i64 0, .int .i64 0, .int .u64 0, .string ByteArray.empty, .int .u64 0, .string ByteArray.empty, .string ByteArray.empty, .int .i64 0, .string ByteArray.empty] 24)) = w5 at hbG ⊢
            clear hbF
            refine (wakes_any _ (hk.below hbG)).mono ?_
            rintro e w6 ⟨rfl, hb6⟩
            have hbH := bl_join hbG hb6
            clear hb6 hbG
            go_wp2_with fail
            go_ret
            exact ⟨rfl, hbH⟩
end Go.Proofs.YtjhejnhjpjmnmaaDoor
