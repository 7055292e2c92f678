/- The reference's Spell. -/
import Derived.Test.YtncjlaacpabkjaaTokSpellMath
import Derived.Test.YtncjlaacpabkjaaTokAllR
set_option linter.unusedVariables false
namespace Go.Proofs.Ytncjlaacpabkjaa
open Go.RowKit
theorem Tk.text_eq' {a b : ByteArray} (h : a.toList = b.toList) : a = b := by
  rw [ByteArray.toList_eq, ByteArray.toList_eq] at h
  have h2 := Array.toList_inj.1 h
  cases a
  cases b
  simp only at h2
  rw [h2]
theorem Tk.cat1 (J : List UInt8) (x : ByteArray) : (⟨J.toArray⟩ : ByteArray) ++ x = ⟨(J ++ x.data.toList).toArray⟩ := Tk.text_eq' (by simp [ByteArray.toList_eq])
set_option maxRecDepth 100000 in
set_option maxHeartbeats 8000000 in
theorem rspell_any (A : Option Addr) (n c : Nat) (ls : List Tk.ITok) (hn : ls.length = n) (hm : n ≤ 65536) (hsz : ∀ t ∈ ls, t.text.size ≤ 65536) (w : World) (hr : Tk.ReadI w A ls) :
    Calls Try.prog 12 #[.slice A n c] w fun e w' => e = .returned (.tuple #[.string (Tk.spell ls).1, .int .i64 (Tk.spell ls).2]) ∧ Below w.heap.size w w' := by
  have Hn := Lib.hid hn
  have Hr := Lib.hid hr
  have HZ := Lib.hid hsz
  have HT := Lib.hid (Tk.total_le hsz)
  clear hn hr hsz
  go_enter Try.func12, Try.ntmps12
  go_wp2
  go_loopw [4, 5] (fun nn i wr => ∃ k : Nat, k ≤ n ∧ i = .int .i64 k ∧ nn = .int .i64 (Tk.total (ls.take k)) ∧ Hid ((ls.take k).all Tk.chk = true) ∧ Below w.heap.size w wr) (fun _ i _ => n - (intOf i).toNat)
  case atStart => exact ⟨0, by omega, rfl, rfl, Lib.hid rfl, Below.refl _ _⟩
  case round =>
    obtain ⟨k, hk, rfl, rfl, HC, hb⟩ := hrel
    have htl := HT.out k
    by_cases hlt : k < n
    · have hkl : k < ls.length := by rw [Hn.out]; exact hlt
      obtain ⟨ag, ao, rfl, hca⟩ := (Hr.out.below hb) (by omega)
      obtain ⟨a0, a1, a2, a3⟩ := hca k hkl
      have hki : (k : Int) < (n : Int) := by omega
      have HTT := Lib.hid (Tk.total_take hkl)
      have HAT := Lib.hid (Tk.all_take hkl)
      have hs := HZ.out ls[k] (List.getElem_mem hkl)
      have HB := Lib.hid (fun h => Tk.spell_bad (l := ls) hkl h)
      have hchk : Tk.chk ls[k] = Tk.chk ls[k] := rfl
      clear hca
      unfold Tk.chk at hchk
      generalize ls[k] = t at *
      obtain ⟨x0, x1, x2, x3⟩ := t
      simp only at a0 a1 a2 a3 hs HTT
      have hbz := hb.size
      by_cases h0 : x1.size = 0
      · have HS : Hid (Tk.spell ls = (Tk.empty, 1)) := Lib.hid (HB.out (by unfold Tk.chk; simp [h0]))
        have t0 : ((x1.size : Int) == 0) = true := beq_iff_eq.2 (by omega)
        clear h0
        go_wp2_with fail
        go_ret2
        exact ⟨by rw [HS.out]; rfl, hb⟩
      · have t0 : ((x1.size : Int) == 0) = false := beq_eq_false_iff_ne.2 (by omega)
        have h0' : 0 < x1.size := by omega
        generalize hone : Tk.oneAt 3 x1 0 = o
        obtain ⟨⟨ok, ot, on, oa⟩, er⟩ := o
        have HCK : Hid (Tk.chk ⟨x0, x1, x2, x3⟩ = (decide (er = 0) && decide (ok = x0) && (ot.toList == x1.toList) && decide ((on : Int) = x2))) := by
          apply Lib.hid
          unfold Tk.chk
          rw [hone]
          simp [h0]
        have HONE := Lib.hid hone
        clear hone hchk h0
        by_cases her : er = 0
        · subst her
          by_cases hk0 : ok = x0
          · subst hk0
            by_cases ht : (ot.toList == x1.toList) = true
            · have hte := Tk.text_eq' (eq_of_beq ht)
              subst hte
              by_cases hnn : (on : Int) = x2
              · subst hnn
                have HS : Hid ((ls.take (k + 1)).all Tk.chk = true) := by
                  apply Lib.hid
                  rw [HAT.out, HC.out, HCK.out]
                  simp
                clear HB HAT HCK ht
                go_wp2_with fail
                refine (rone_any ot hs 0 h0' _).mono ?_
                rintro e w1 ⟨rfl, hb1⟩
                rw [HONE.out]
                simp only [Tk.Tok.val]
                have hb2 := hb1.size
                have b0 := (Below.cell hb1 (p := ⟨ag, ao + k * 4, none⟩) (World.block_lt_of_cell? _ _ a0)).trans a0
                have b1 := (Below.cell hb1 (p := ⟨ag, ao + k * 4 + 1, none⟩) (World.block_lt_of_cell? _ _ a1)).trans a1
                have b2 := (Below.cell hb1 (p := ⟨ag, ao + k * 4 + 2, none⟩) (World.block_lt_of_cell? _ _ a2)).trans a2
                have b3 := (Below.cell hb1 (p := ⟨ag, ao + k * 4 + 3, none⟩) (World.block_lt_of_cell? _ _ a3)).trans a3
                have hagl := World.block_lt_of_cell? _ _ a0
                have hag : ag < w1.heap.size := by simp only at hagl; omega
                clear a0 a1 a2 a3
                go_wp2_with fail
                go_quiet (fail)
                go_wp2_with fail
                refine ⟨⟨k + 1, by omega, by go_num, by rw [HTT.out]; go_num, HS, below_drewN ((hb.trans (hb1.mono (by omega))).alloc (by omega) _) _⟩, by simp [intOf]; omega⟩
              · have tn : ((on : Int) == x2) = false := beq_eq_false_iff_ne.2 hnn
                have HS : Hid (Tk.spell ls = (Tk.empty, 1)) := Lib.hid (HB.out (by rw [HCK.out]; simp [hnn]))
                clear HB HAT HCK hnn
                go_wp2_with fail
                refine (rone_any ot hs 0 h0' _).mono ?_
                rintro e w1 ⟨rfl, hb1⟩
                rw [HONE.out]
                simp only [Tk.Tok.val]
                have hb2 := hb1.size
                have b0 := (Below.cell hb1 (p := ⟨ag, ao + k * 4, none⟩) (World.block_lt_of_cell? _ _ a0)).trans a0
                have b1 := (Below.cell hb1 (p := ⟨ag, ao + k * 4 + 1, none⟩) (World.block_lt_of_cell? _ _ a1)).trans a1
                have b2 := (Below.cell hb1 (p := ⟨ag, ao + k * 4 + 2, none⟩) (World.block_lt_of_cell? _ _ a2)).trans a2
                have b3 := (Below.cell hb1 (p := ⟨ag, ao + k * 4 + 3, none⟩) (World.block_lt_of_cell? _ _ a3)).trans a3
                have hagl := World.block_lt_of_cell? _ _ a0
                have hag : ag < w1.heap.size := by simp only at hagl; omega
                clear a0 a1 a2 a3
                go_wp2_with fail
                go_quiet (fail)
                go_wp2_with fail
                go_ret2
                exact ⟨by rw [HS.out]; rfl, below_drewN ((hb.trans (hb1.mono (by omega))).alloc (by omega) _) _⟩
            · have tt : (ot.toList == x1.toList) = false := by simpa using ht
              have HS : Hid (Tk.spell ls = (Tk.empty, 1)) := Lib.hid (HB.out (by rw [HCK.out]; simp [ht]))
              clear HB HAT HCK ht
              go_wp2_with fail
              refine (rone_any x1 hs 0 h0' _).mono ?_
              rintro e w1 ⟨rfl, hb1⟩
              rw [HONE.out]
              simp only [Tk.Tok.val]
              have hb2 := hb1.size
              have b0 := (Below.cell hb1 (p := ⟨ag, ao + k * 4, none⟩) (World.block_lt_of_cell? _ _ a0)).trans a0
              have b1 := (Below.cell hb1 (p := ⟨ag, ao + k * 4 + 1, none⟩) (World.block_lt_of_cell? _ _ a1)).trans a1
              have b2 := (Below.cell hb1 (p := ⟨ag, ao + k * 4 + 2, none⟩) (World.block_lt_of_cell? _ _ a2)).trans a2
              have b3 := (Below.cell hb1 (p := ⟨ag, ao + k * 4 + 3, none⟩) (World.block_lt_of_cell? _ _ a3)).trans a3
              have hagl := World.block_lt_of_cell? _ _ a0
              have hag : ag < w1.heap.size := by simp only at hagl; omega
              clear a0 a1 a2 a3
              go_wp2_with fail
              go_quiet (fail)
              go_wp2_with fail
              go_ret2
              exact ⟨by rw [HS.out]; rfl, below_drewN ((hb.trans (hb1.mono (by omega))).alloc (by omega) _) _⟩
          · have tk : ((ok : Int) == (x0 : Int)) = false := beq_eq_false_iff_ne.2 (by omega)
            have HS : Hid (Tk.spell ls = (Tk.empty, 1)) := Lib.hid (HB.out (by rw [HCK.out]; simp [hk0]))
            clear HB HAT HCK hk0
            go_wp2_with fail
            refine (rone_any x1 hs 0 h0' _).mono ?_
            rintro e w1 ⟨rfl, hb1⟩
            rw [HONE.out]
            simp only [Tk.Tok.val]
            have hb2 := hb1.size
            have b0 := (Below.cell hb1 (p := ⟨ag, ao + k * 4, none⟩) (World.block_lt_of_cell? _ _ a0)).trans a0
            have b1 := (Below.cell hb1 (p := ⟨ag, ao + k * 4 + 1, none⟩) (World.block_lt_of_cell? _ _ a1)).trans a1
            have b2 := (Below.cell hb1 (p := ⟨ag, ao + k * 4 + 2, none⟩) (World.block_lt_of_cell? _ _ a2)).trans a2
            have b3 := (Below.cell hb1 (p := ⟨ag, ao + k * 4 + 3, none⟩) (World.block_lt_of_cell? _ _ a3)).trans a3
            have hagl := World.block_lt_of_cell? _ _ a0
            have hag : ag < w1.heap.size := by simp only at hagl; omega
            clear a0 a1 a2 a3
            go_wp2_with fail
            go_quiet (fail)
            go_wp2_with fail
            go_ret2
            exact ⟨by rw [HS.out]; rfl, below_drewN ((hb.trans (hb1.mono (by omega))).alloc (by omega) _) _⟩
        · have te : ((er : Int) == 0) = false := beq_eq_false_iff_ne.2 (by omega)
          have te2 : ((er : Int) != 0) = true := by rw [bne_iff_ne]; omega
          have HS : Hid (Tk.spell ls = (Tk.empty, 1)) := Lib.hid (HB.out (by rw [HCK.out]; simp [her]))
          clear HB HAT HCK her
          go_wp2_with fail
          refine (rone_any x1 hs 0 h0' _).mono ?_
          rintro e w1 ⟨rfl, hb1⟩
          rw [HONE.out]
          simp only [Tk.Tok.val]
          have hb2 := hb1.size
          have b0 := (Below.cell hb1 (p := ⟨ag, ao + k * 4, none⟩) (World.block_lt_of_cell? _ _ a0)).trans a0
          have b1 := (Below.cell hb1 (p := ⟨ag, ao + k * 4 + 1, none⟩) (World.block_lt_of_cell? _ _ a1)).trans a1
          have b2 := (Below.cell hb1 (p := ⟨ag, ao + k * 4 + 2, none⟩) (World.block_lt_of_cell? _ _ a2)).trans a2
          have b3 := (Below.cell hb1 (p := ⟨ag, ao + k * 4 + 3, none⟩) (World.block_lt_of_cell? _ _ a3)).trans a3
          have hagl := World.block_lt_of_cell? _ _ a0
          have hag : ag < w1.heap.size := by simp only at hagl; omega
          clear a0 a1 a2 a3
          go_wp2_with fail
          go_quiet (fail)
          go_wp2_with fail
          go_ret2
          exact ⟨by rw [HS.out]; rfl, below_drewN ((hb.trans (hb1.mono (by omega))).alloc (by omega) _) _⟩
    · obtain rfl : k = n := by omega
      have htk : ls.take k = ls := List.take_of_length_le (by rw [Hn.out]; omega)
      have HTK := Lib.hid htk
      have HA : Hid (ls.all Tk.chk = true) := Lib.hid (by have := HC.out; rwa [htk] at this)
      rw [htk] at htl ⊢
      clear htk hlt
      by_cases hbig : 65537 < Tk.total ls
      · have HS : Hid (Tk.spell ls = (Tk.empty, 3)) := Lib.hid (by unfold Tk.spell; rw [if_pos HA.out, if_pos hbig])
        go_wp2_with fail
        go_ret2
        exact ⟨by rw [HS.out]; rfl, hb⟩
      · have HS : Hid (Tk.spell ls = (⟨(Tk.joined ls).toArray⟩, 0)) := Lib.hid (by unfold Tk.spell; rw [if_pos HA.out, if_neg hbig])
        have HJL := Lib.hid (Tk.joined_le ls)
        go_wp2_with fail
        go_loop [8, 9] (fun x i => ∃ m : Nat, m ≤ k ∧ i = .int .i64 m ∧ x = .string ⟨(Tk.joined (ls.take m)).toArray⟩) (fun _ i => k - (intOf i).toNat)
        case atStart => exact ⟨0, by omega, rfl, rfl⟩
        case round =>
          obtain ⟨m, hm2, rfl, rfl⟩ := hrel
          by_cases hml : m < k
          · have hkl : m < ls.length := by rw [Hn.out]; exact hml
            obtain ⟨ag, ao, rfl, hca⟩ := (Hr.out.below hb) (by omega)
            obtain ⟨a0, a1, a2, a3⟩ := hca m hkl
            have hmi : (m : Int) < (k : Int) := by omega
            have HJT := Lib.hid (Tk.joined_take hkl)
            have hj1 := HJL.out m
            have hj2 := HJL.out (m + 1)
            have hlen := congrArg List.length HJT.out
            simp only [List.length_append] at hlen
            have hts : ls[m].text.data.toList.length = ls[m].text.size := by simp
            clear hca a0 a2 a3
            have hJx : (Tk.joined (ls.take m)).length + ls[m].text.size ≤ 65537 := by omega
            clear hlen hts hj1 hj2
            generalize ls[m].text = x1 at *
            generalize hJ : Tk.joined (ls.take m) = J at *
            clear hJ
            by_cases hm0 : m = 0
            · subst hm0
              have hov : J.length + x1.size ≤ 9223372036854775807 := by omega
              go_wp2_with fail
              refine ⟨⟨1, by omega, rfl, ?_⟩, by simp [intOf]; omega⟩
              rw [show (1 : Nat) = 0 + 1 from rfl, HJT.out, Tk.cat1, if_neg (by omega), List.append_nil]
            · have hm0i : (0 : Int) < (m : Int) := by omega
              have hov1 : J.length + 1 ≤ 9223372036854775807 := by omega
              have hov2 : J.length + 1 + x1.size ≤ 9223372036854775807 := by omega
              go_wp2_with fail
              refine ⟨⟨m + 1, by omega, by go_num, ?_⟩, by simp [intOf]; omega⟩
              rw [HJT.out, Tk.cat1, Tk.cat1, if_pos (by omega)]
          · obtain rfl : m = k := by omega
            go_wp2_with fail
            go_ret2
            exact ⟨by rw [HTK.out, HS.out]; rfl, hb⟩
end Go.Proofs.Ytncjlaacpabkjaa
