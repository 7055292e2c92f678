/- TableSpoilt: the walk. -/
import Derived.Test.YtdjccepchleacaaTabM
import Derived.Test.YtdjccepchleacaaBytes
import Derived.Test.YtdjccepchleacaaRoundA
set_option linter.unusedVariables false
set_option linter.unusedSimpArgs false
namespace Go.Proofs.Ytdjccepchleacaa
open Go.RowKit Go.BigFrame Go.Shelf
attribute [local go_sem] Oper.semAt_some
theorem Tb.Opened.grow {W W' : World} {base base' b m : Nat} {s : ByteArray} {l : List Tb.Ent} {v : Value} {xs : List Value} (h : Tb.Opened W base b s l) (hown : W.ownsRow base' 36 3 v m xs) (hg : W.grownBy W' v.ownBlock) : Tb.Opened W' base b s l := by
  obtain ⟨bs, last, h1, h2⟩ := h
  exact ⟨bs, last, h1.row hown (by decide) (by decide) hg, h2⟩
theorem Tb.Tab.grow {W W' : World} {base base' b kp kk m : Nat} {s key : ByteArray} {l : List Tb.Ent} {v : Value} {xs : List Value} (h : Tb.Tab W base b kp kk s key l) (k1 : ∃ cs, Bk W kp 28 cs) (k2 : ∃ cs, Bk W kk 9 cs) (hown : W.ownsRow base' 36 3 v m xs) (hg : W.grownBy W' v.ownBlock) : Tb.Tab W' base b kp kk s key l := by
  obtain ⟨c1, k1⟩ := k1
  obtain ⟨c2, k2⟩ := k2
  exact ⟨(World.cell?_of_block (hg.block kp k1.lt (fun e => ownBlock_ne' hown k1 (by decide) e.symm))).trans h.1, (World.cell?_of_block (hg.block kk k2.lt (fun e => ownBlock_ne' hown k2 (by decide) e.symm))).trans h.2.1, h.2.2.grow hown hg⟩
/-- TableSpoilt's rounds. -/
structure Tb.SpI (w W : World) (A : Option Addr) (l : List Tb.Ent) (base b mb kp kk : Nat) (S : ByteArray) (ol pre : List Tb.Ent) : Prop where
  row : ∃ v, Bk W mb 22 #[v] ∧ W.ownsRow w.heap.size 36 3 v pre.length (pre.flatMap Tb.Ent.cells) ∧ v.ownBlock ≠ some mb
  kp_ : ∃ cs, Bk W kp 28 cs
  kk_ : ∃ cs, Bk W kk 9 cs
  op : Tb.Opened W base b S ol
  lie : Lie W A (l.flatMap Tb.Ent.cells)
  old : Lie w A (l.flatMap Tb.Ent.cells)
  bel : Below w.heap.size w W
theorem Tb.SpI.kept {w W W' : World} {row : Option Nat} {A : Option Addr} {l : List Tb.Ent} {base b mb kp kk : Nat} {S : ByteArray} {ol pre : List Tb.Ent} (h : Tb.SpI w W A l base b mb kp kk S ol pre) (hg : W.grownBy W' row) (hrow : ∀ r, row = some r → w.heap.size ≤ r ∧ ∃ o : Obj, W.heap[r]? = some o ∧ o.isCells = false) : Tb.SpI w W' A l base b mb kp kk S ol pre := by
  have hr : ∀ r, row = some r → ∃ o : Obj, W.heap[r]? = some o ∧ o.isCells = false := fun r e => (hrow r e).2
  obtain ⟨⟨v, m0, m1, m2⟩, ⟨c1, k1⟩, ⟨c2, k2⟩, h3, h4, h5, h6⟩ := h
  exact ⟨⟨v, bk_kept m0 hg hr, row_kept m1 hg hr, m2⟩, ⟨c1, bk_kept k1 hg hr⟩, ⟨c2, bk_kept k2 hg hr⟩, h3.kept hg hr, h4.kept' hg hr, h5, h6.grown hg h6.size (fun k e => (hrow k e).1)⟩
/-- A table of so many entries. -/
def Tb.LenAt (w : World) (b k : Nat) : Prop := ∃ base s l, Tb.Opened w base b s l ∧ l.length = k
theorem Tb.LenAt.below {w w' : World} {b k : Nat} (h : Tb.LenAt w b k) (hb : Below w.heap.size w w') : Tb.LenAt w' b k := by
  obtain ⟨base, s, l, h1, h2⟩ := h
  exact ⟨base, s, l, h1.below hb, h2⟩
theorem tlen_k (b k : Nat) (w : World) (h : Tb.LenAt w b k) : Calls Try.prog 11 #[.pointer (some ⟨b, 0, none⟩)] w fun e w' => e = .returned (.int .i64 k) ∧ w' = w := by
  obtain ⟨base, s, l, h1, rfl⟩ := h
  exact (tlen_any base b s l w h1).mono fun _ _ ⟨h2, h3⟩ => ⟨h2, h3.symm⟩
theorem Tb.mod_place (a : Int) (n : Nat) (h0 : 0 < n) (h1 : n ≤ 1000000) : ∃ k : Nat, (wrap64 (a.tmod (n : Int) + (n : Int))).tmod (n : Int) = (k : Int) ∧ k < n := by
  have h2 := Int.tmod_lt_of_pos a (show (0 : Int) < (n : Int) by omega)
  have h3 := Int.lt_tmod_of_pos a (show (0 : Int) < (n : Int) by omega)
  have h4 : wrap64 (a.tmod (n : Int) + (n : Int)) = a.tmod (n : Int) + (n : Int) := by unfold wrap64; omega
  rw [h4, Int.tmod_eq_emod_of_nonneg (by omega)]
  have h5 := Int.emod_nonneg (a.tmod (n : Int) + (n : Int)) (show (n : Int) ≠ 0 by omega)
  have h6 := Int.emod_lt_of_pos (a.tmod (n : Int) + (n : Int)) (show (0 : Int) < (n : Int) by omega)
  exact ⟨((a.tmod (n : Int) + (n : Int)) % (n : Int)).toNat, by omega, by omega⟩
theorem Tb.byte_range {c : Int} (h : (Lit.int .u8 c).wf = true) : 0 ≤ c ∧ c < 256 := by
  have e : IntKind.u8.min = 0 := rfl
  have e2 : IntKind.u8.max = 255 := rfl
  simp [Lit.wf] at h
  omega
set_option maxRecDepth 100000 in
set_option maxHeartbeats 8000000 in
theorem tableSpoilt_walk (A : Option Addr) (n c : Nat) (l : List Tb.Ent) (at_ ch : Int) (other : ByteArray) (w : World) (hn : l.length = n) (hm : n ≤ 9223372036854775807) (hz : ∀ x ∈ l, x.key.size ≤ maxLen ∧ x.value.size ≤ maxLen) (hA : A = none → n = 0 ∧ c = 0) (hl : Lie w A (l.flatMap Tb.Ent.cells))
    (hat : (Lit.int .i64 at_).wf = true) (hch : (Lit.int .u8 ch).wf = true) (hoth : other.size ≤ maxLen) :
    Calls Try.prog 4 #[.slice A n c, .int .i64 at_, .int .u8 ch, .string other] w fun e w' => e = .returned (.bool true) ∧ Below w.heap.size w w' := by
  have Hn := Lib.hid hn
  have Hl := Lib.hid hl
  have Hz := Lib.hid hz
  clear hn hl hz hA
  unfold maxLen at hoth
  refine (callsIn_wide (n := 6)).1 ?_
  refine callsIn_of_wp_marks Try.func4 rfl trivial ?_ rfl
  simp only [Try.ntmps4, List.size_toArray, List.length_cons, List.length_nil, Nat.reduceAdd, Nat.reduceSub, Array.replicate_succ, Array.replicate_zero, List.push_toArray, List.append_toArray, List.nil_append, List.cons_append]
  gi_wp2_with fail
  refine ⟨trivial, (callsIn_wide.2 (awake6_any _)).mono ?_⟩
  rintro e w1 ⟨rfl, hb1⟩
  gi_wp2_with fail
  refine ⟨trivial, (callsIn_wide.2 (great6_any A n c 100 (by omega) l Hn.out hm Hz.out _ (Hl.out.below hb1))).mono ?_⟩
  rintro e w2 ⟨rfl, hb2⟩
  have hB2 := bl_join hb1 hb2
  have hz2 := hB2.size
  have Hl2 := Lib.hid (Hl.out.below hB2)
  clear hb1 hb2
  obtain ⟨G, HG⟩ : ∃ G, Hid (Tb.great 100 l = G) := ⟨_, Lib.hid rfl⟩
  rw [HG.out]
  cases G with
  | true =>
    gi_wp2_with fail
    (refine ⟨.bool true, ?_, rfl, hB2⟩; simp [results, Try.f4, go_sem])
  | false =>
    by_cases hot : 20000 < other.size
    · have hoi : (20000 : Int) < (other.size : Int) := by omega
      gi_wp2_with fail
      (refine ⟨.bool true, ?_, rfl, hB2⟩; simp [results, Try.f4, go_sem])
    · have hoi : ¬ (20000 : Int) < (other.size : Int) := by omega
      have hos : other.size ≤ 20000 := by omega
      gi_wp2_with fail
      refine ⟨trivial, (callsIn_wide.2 (topen_any other (by omega) _)).mono ?_⟩
      intro e w3 hP
      unfold Tb.OpenP at hP
      have hB4 := hB2.trans (hP.1.mono hz2)
      have hz4 := hB4.size
      have Hl4 := Lib.hid (Hl2.out.below hP.1)
      rcases hO : Tb.openE other with _ | ol
      · rw [hO] at hP
        obtain ⟨hz9, rfl⟩ := hP
        clear hO hz9
        gi_upto_region 20 with (fail)

        -- the tail: worlds w4 (Below w, the list lies)
        gi_wp2_with fail
        refine ⟨trivial, (callsIn_wide.2 (tbuild_any A n c l Hn.out hm (Tb.great_small HG.out) _ Hl4.out)).mono ?_⟩
        rintro e w5 ⟨rfl, hb5⟩
        have hB5 := hB4.trans (hb5.mono hz4)
        have hz5 := hB5.size
        obtain ⟨R, HR⟩ : ∃ R, Hid (Tb.right l = R) := ⟨_, Lib.hid rfl⟩
        rw [HR.out]
        by_cases hR : R = 0
        case neg =>
          have tR : ((R : Int) != 0) = true := by rw [bne_iff_ne]; omega
          clear hR
          gi_wp2_with fail
          (refine ⟨.bool true, ?_, rfl, hB5⟩; simp [results, Try.f4, go_sem])
        subst hR
        simp only [Int.cast_ofNat_Int]
        have HO : Hid (Tb.openE (Tb.built l) ≠ none) := Lib.hid (by unfold Tb.built; rw [if_pos HR.out, Tb.open_bytes HR.out]; simp)
        have hSz : (Tb.built l).size ≤ 700000 := by
          unfold Tb.built
          rw [if_pos HR.out, Tb.ba_size, Tb.bytes_len]
          have := Tb.body_bound HR.out
          omega
        have hSp : 16 ≤ (Tb.built l).size := by
          unfold Tb.built
          rw [if_pos HR.out, Tb.ba_size, Tb.bytes_len]
          omega
        generalize Tb.built l = T at *
        gi_upto_region 24 with (fail)
        obtain ⟨k, hk, hkT⟩ : ∃ k : Nat, (wrap64 (at_.tmod (T.size : Int) + (T.size : Int))).tmod (T.size : Int) = (k : Int) ∧ k < T.size := Tb.mod_place at_ T.size (by omega) (by omega)
        rw [hk]
        clear hk
        have hki : (k : Int) ≤ (T.size : Int) := by omega
        have hcut := Tb.open_cut HO.out k hkT
        have HCUT : Hid (Tb.openE (T.extract 0 k) = none) := Lib.hid (by rw [← hcut]; congr 1; exact Tb.ext_list (by rw [Tb.ba_list, Lib.extract_data]; simp))
        have hes : (T.extract 0 k).size ≤ 800000000 := by simp; omega
        clear hcut
        gi_wp2_with fail
        refine ⟨trivial, (callsIn_wide.2 (topen_any _ hes _)).mono ?_⟩
        intro e w6 hP
        unfold Tb.OpenP at hP
        rw [HCUT.out] at hP
        obtain ⟨hb6, rfl⟩ := hP
        have hB6 := hB5.trans (hb6.mono hz5)
        have hz6 := hB6.size
        clear hB5 HCUT hes
        gi_upto_region 27 with (fail)
        by_cases hop : 0 < other.size
        case' pos =>
          have hopi : (0 : Int) < (other.size : Int) := by omega
          have HMORE : Hid (Tb.openE (T ++ other) = none) := Lib.hid (Tb.open_more HO.out hop)
          have hms : (T ++ other).size ≤ 800000000 := by rw [ByteArray.size_append]; omega
          gi_wp2_with fail
          refine ⟨trivial, (callsIn_wide.2 (topen_any _ hms _)).mono ?_⟩
          intro e w7 hP
          unfold Tb.OpenP at hP
          rw [HMORE.out] at hP
          obtain ⟨hb7, rfl⟩ := hP
          have hB7 := hB6.trans (hb7.mono hz6)
          clear HMORE hms
        case' neg =>
          have hopi : ¬ (0 : Int) < (other.size : Int) := by omega
          obtain ⟨w7, rfl⟩ : ∃ w7, w7 = w6 := ⟨_, rfl⟩
          have hB7 := hB6
        all_goals
          have hz7 := hB7.size
          gi_upto_region 31 with (fail)
          clear hopi hop hB6 hb6
          by_cases hc0 : ch = 0
          · subst hc0
            gi_wp2_with fail
            (refine ⟨.bool true, ?_, rfl, hB7⟩; simp [results, Try.f4, go_sem])
          · have hc2 := Tb.byte_range hch
            obtain ⟨cn, rfl⟩ := Int.eq_ofNat_of_zero_le hc2.1
            have hcn : cn < 256 := by omega
            have hcn0 : cn ≠ 0 := by omega
            have hcc : ((cn : Int) == 0) = false := by rw [beq_eq_false_iff_ne]; exact hc0
            clear hc0
            obtain ⟨cap, w8, hrun, hby, hb8, hlt8, hcap⟩ := bytes_of_string w7 T
            have hjs : k < T.data.toList.length := by simpa using hkT
            have hcell := hby.cell k hjs
            have hfree := hby.free k hjs
            obtain ⟨Y, hY⟩ : ∃ Y, T.data.toList[k] = Y := ⟨_, rfl⟩
            rw [hY] at hcell
            have hxor := xor_byte Y.toNat cn Y.toNat_lt hcn
            have hne := xor_byte_ne Y cn hcn hcn0
            have hbs := hby.set k (UInt8.ofNat (Y.toNat ^^^ cn)) hjs
            have hrun2 := string_of_bytes hbs cap
            have hlen : (T.data.toList.set k (UInt8.ofNat (Y.toNat ^^^ cn))).length = T.size := by simp
            rw [hlen] at hrun2
            have HSP : Hid (Tb.openE (Tb.ba (T.data.toList.set k (UInt8.ofNat (Y.toNat ^^^ cn)))) = none) := Lib.hid (Tb.open_spoilt HO.out k hjs _ (by rw [hY]; exact hne))
            have hki0 : (0 : Int) ≤ (k : Int) := by omega
            have hki1 : (k : Int) < (T.size : Int) := by omega
            have hB8 : Below w.heap.size w (w8.setCell ⟨w7.heap.size, k, none⟩ (.int .u8 (((UInt8.ofNat (Y.toNat ^^^ cn)).toNat : Nat) : Int))) := (hB7.trans (hb8.mono hz7)).setCell (p := ⟨w7.heap.size, k, none⟩) hz7 _
            have hms : (Tb.ba (T.data.toList.set k (UInt8.ofNat (Y.toNat ^^^ cn)))).size ≤ 800000000 := by rw [Tb.ba_size, hlen]; omega
            unfold Tb.ba at HSP hms
            clear hne hcap hby hbs hjs hY hlen
            generalize UInt8.ofNat (Y.toNat ^^^ cn) = X at *
            generalize T.data.toList.set k X = l2 at *
            gi_wp2_with fail
            refine ⟨trivial, (callsIn_wide.2 (topen_any _ hms _)).mono ?_⟩
            intro e w9 hP
            unfold Tb.OpenP at hP
            rw [HSP.out] at hP
            obtain ⟨hb9, rfl⟩ := hP
            have hB9 := hB8.trans (hb9.mono hB8.size)
            clear hrun hrun2 hcell hfree
            gi_wp2_with fail
            (refine ⟨.bool true, ?_, rfl, hB9⟩; simp [results, Try.f4, go_sem])
      · rw [hO] at hP
        obtain ⟨hz9, b, hbb, rfl, hop⟩ := hP
        clear hz9

        obtain ⟨hol12, hol2, hol3, hrt, hol5⟩ := Tb.open_size hO
        have HO1 := Lib.hid hO
        have HRT := Lib.hid hrt
        have hol4 := (Tb.right_zero hrt).1
        have HFIT := Lib.hid (Tb.right_fit hrt)
        have hsort := Tb.right_sorted hrt
        have HOP := Lib.hid hop
        have hbl := hop.lt
        have hfn := func6_not_nil
        clear hO hrt hop hol12 hol2 hol3 hol5
        gi_wp2_with fail
        refine ⟨trivial, (callsIn_wide.2 (tfrom_any (some ⟨b, 0, none⟩) ⟨#[]⟩ _)).mono ?_⟩
        rintro e w' ⟨rfl, rfl⟩
        gi_wp2_with fail
        clear hfn
        obtain ⟨W1, hW1⟩ : ∃ W1, (((w3.alloc (.cells #[.slice none 0 0] 22)).alloc (.cells #[.pointer (some ⟨b, 0, none⟩)] 28)).alloc (.cells #[.string ⟨#[]⟩] 9)) = W1 := ⟨_, rfl⟩
        rw [hW1]
        have hz1 : W1.heap.size = w3.heap.size + 3 := by rw [← hW1]; simp
        have r0 : Bk W1 w3.heap.size 22 #[.slice none 0 0] := by rw [← hW1]; exact ((Bk.new w3 _ _).alloc _).alloc _
        have r1 : Bk W1 (w3.heap.size + 1) 28 #[.pointer (some ⟨b, 0, none⟩)] := by
          rw [← hW1]
          have h := Bk.new (w3.alloc (.cells #[.slice none 0 0] 22)) 28 #[.pointer (some ⟨b, 0, none⟩)]
          rw [World.size_alloc] at h
          exact h.alloc _
        have r2 : Bk W1 (w3.heap.size + 1 + 1) 9 #[.string ⟨#[]⟩] := by
          rw [← hW1]
          have h := Bk.new ((w3.alloc (.cells #[.slice none 0 0] 22)).alloc (.cells #[.pointer (some ⟨b, 0, none⟩)] 28)) 9 #[.string ⟨#[]⟩]
          rw [World.size_alloc, World.size_alloc] at h
          exact h
        have hbW1 : Below w3.heap.size w3 W1 := by rw [← hW1]; exact (((Below.refl _ w3).alloc (Nat.le_refl _) _).alloc (by simp) _).alloc (by simp; omega) _
        have hI1 : Tb.SpI w W1 A l w2.heap.size b w3.heap.size (w3.heap.size + 1) (w3.heap.size + 1 + 1) other ol [] :=
          ⟨⟨.slice none 0 0, r0, World.ownsRow_nil _ _ _ _, by simp [Value.ownBlock]⟩, ⟨_, r1⟩, ⟨_, r2⟩, HOP.out.below hbW1, Hl4.out.below hbW1, Hl.out, hB4.trans (hbW1.mono hz4)⟩
        have hT : Tb.Tab W1 w2.heap.size b (w3.heap.size + 1) (w3.heap.size + 1 + 1) other ⟨#[]⟩ ol := ⟨r1.cell 0, r2.cell 0, HOP.out.below hbW1⟩
        have HFE : Hid (Tb.from_ ol ⟨#[]⟩ = ol) := Lib.hid (Tb.from_empty ol)
        have hblW : ¬ b = w3.heap.size := by omega
        clear hW1 hbW1 r0 r1 r2 HOP Hl4
        generalize w3.heap.size = mb at *
        refine range_ownX rfl (by omega) (gf := 34) (lb := #[.pointer (some ⟨mb + 1, 0, none⟩), .pointer (some ⟨mb + 1 + 1, 0, none⟩)]) rfl trivial (enters_of Try.func34 (by kernel_rfl) rfl)
          (tfrom1_stops _ (by omega) other (by omega) ol hsort ⟨#[]⟩ w2.heap.size b _ _ w.heap.size W1 (by omega) hT (Tb.from_ ol ⟨#[]⟩).length (Nat.le_refl _)) Tb.keepF_t (keepTab_b (by omega)) (Below.refl _ _) (fun _ => rfl)
          36 (fun x => #[.string x.key, .string x.value, .bool x.gone]) (keepTab_a (by omega))
          (fun pre W => Tb.SpI w W A l w2.heap.size b mb (mb + 1) (mb + 1 + 1) other ol pre ∧ W1.heap.size ≤ W.heap.size)
          (fun cd pre W => False)
          (fun s A B row hs hg hr => ⟨hs.1.kept hg (fun r e => ⟨by have := (hr r e).1; omega, (hr r e).2⟩), Nat.le_trans hs.2 hg.size⟩)
          (fun cd s A B row hs hg hr => hs)
          (fun pre W h => h.2) ⟨hI1, Nat.le_refl _⟩ ?ex ?done ?stop
        case ex =>
          apply Exists.intro
          refine ⟨?assign, ?body⟩
          case assign =>
            intro l x b2 W K hb2 hK
            unfold Tb.Ent.val
            have HB2 := Lib.hid hb2
            clear hb2
            gi_wp2
            rw [← HB2.out]
            exact hK
          case body =>
            rintro lo pre x b2 W ⟨hI, hzW⟩ hx hb2 hpl
            rw [HFE.out] at hpl
            obtain ⟨⟨v, m0, m1, m2⟩, hkp, hkk, hop, hlie, hold, hbel⟩ := hI
            obtain ⟨A2, c2, rfl, _, _, _, _, _⟩ := Lie.of_own m1
            have HM1 := Lib.hid m1
            have cm : W.cell? ⟨mb, 0, none⟩ = some (.slice A2 pre.length c2) := m0.cell 0
            have hmW := m0.lt
            obtain ⟨⟨e0, e1, e2⟩, hz3⟩ := hx.k3
            obtain ⟨xk, xv, xg⟩ := x
            simp only at e0 e1 e2
            have hbz : w.heap.size ≤ W.heap.size := hbel.size
            clear hz3
            have HI : Hid (Tb.SpI w W A l w2.heap.size b mb (mb + 1) (mb + 1 + 1) other ol pre) := Lib.hid ⟨⟨_, m0, m1, m2⟩, hkp, hkk, hop, hlie, hold, hbel⟩
            clear m1 hop hlie hold hkp hkk hx
            gi_wp2_with (gi_at_builtin; go_must (refine wpListIn_append_cells rfl (.tmp 49) (.tmp 51) _ rfl w.heap.size 36 _ 3 40 Try.underlying22 Tb.info_entry rfl (by decide) _ pre.length _ rfl HM1.out [.string xk, .string xv, .bool xg] rfl W.heap.size rfl rfl (by simp [Value.oneCell']) (by unfold maxLen; omega) (by omega) hbz ?_))
            intro v' W2 hown8 hb8 hg8 hv8
            obtain ⟨A3, c3, hvs, _, _, _, _, _⟩ := Lie.of_own hown8
            subst hvs
            have m8 : Bk W2 mb 22 #[.slice A2 pre.length c2] := (m0.alloc _).grown hg8 (Ne.symm m2)
            have f8 : W2.frozen? ⟨mb, 0, none⟩ = false := m8.frozen 0
            have c8 : W2.cell? ⟨mb, 0, none⟩ = some (.slice A2 pre.length c2) := m8.cell 0
            have hz8 := hb8.size
            gi_wp2_with fail
            obtain ⟨⟨_, _, _, _⟩, ⟨q1, hkp⟩, ⟨q2, hkk⟩, hop, hlie, hold, hbel'⟩ := HI.out
            have hal := (HM1.out).alloc (.cells #[.string xk, .string xv, .bool xg] 36)
            have hmn : (Value.slice A3 (pre.length + 1) c3).ownBlock ≠ some mb := by
              intro e
              rcases hv8 with h | h
              · rw [h] at e; exact m2 e
              · rw [h] at e; injection e with e; omega
            have hkp8 := (hkp.alloc (.cells #[.string xk, .string xv, .bool xg] 36)).grown hg8 (fun e => ownBlock_ne' hal (hkp.alloc _) (by decide) e.symm)
            have hkk8 := (hkk.alloc (.cells #[.string xk, .string xv, .bool xg] 36)).grown hg8 (fun e => ownBlock_ne' hal (hkk.alloc _) (by decide) e.symm)
            have hst := set_grown W2 mb 0 (Value.slice A3 (pre.length + 1) c3)
            have hko : KeepsOthers W (W2.setCell ⟨mb, 0, none⟩ (Value.slice A3 (pre.length + 1) c3)) := ((KeepsOthers.alloc W _).trans (KeepsOthers.of_grownBy hg8 (fun j o e ho => by
              rcases hal.2 with ⟨hn, _⟩ | ⟨g', cap', cur', hn, _, hgg, _⟩
              · rw [hn] at e; cases e
              · rw [hn] at e
                simp [Value.ownBlock] at e
                subst e
                rw [hgg] at ho
                injection ho with ho
                subst ho
                rfl))).trans (KeepsOthers.setCell _ _ _)
            refine ⟨hko.from _, ⟨hb8.setCell (p := ⟨mb, 0, none⟩) hz4 _, fun hx => ?_⟩, ⟨⟨(Value.slice A3 (pre.length + 1) c3), m8.set_ 0 (Value.slice A3 (pre.length + 1) c3), ?_, hmn⟩, ⟨_, hkp8.far (by show mb + 1 ≠ mb; omega) _⟩, ⟨_, hkk8.far (by show mb + 1 + 1 ≠ mb; omega) _⟩, ?_, ?_, hold, (hbel.trans hb8).setCell (p := ⟨mb, 0, none⟩) hz4 _⟩, ?_⟩
            · have h1 := (hx.below ((Below.refl _ _).alloc (Nat.le_refl _) (.cells #[.string xk, .string xv, .bool xg] 36))).grow ⟨_, hkp.alloc _⟩ ⟨_, hkk.alloc _⟩ hal hg8
              exact h1.set m8 (by decide) hblW (by omega) (by omega) _
            · rw [List.length_append, List.flatMap_append]
              exact hown8.kept hst (.inr hmn)
            · exact ((hop.below ((Below.refl _ _).alloc (Nat.le_refl _) _)).grow hal hg8).set m8 (by decide) hblW _
            · by_cases h0 : 0 < (l.flatMap Tb.Ent.cells).length
              · obtain ⟨g', off, e2, hc⟩ := hold h0
                have h1 := World.block_lt_of_cell? w _ (hc 0 _ (List.getElem?_eq_getElem h0))
                simp only at h1
                refine (((hlie.alloc _).grown hg8 (fun ad e => ?_))).set' _ _ (fun h0 ad e => ?_)
                · intro e'
                  rw [e] at e2
                  injection e2 with e2
                  subst e2
                  have h2 := (hal.lt _ e'.symm).1
                  simp only at h2
                  omega
                · rw [e] at e2
                  injection e2 with e2
                  subst e2
                  simp only
                  omega
              · exact fun h => absurd h h0
            · simp; omega
        case stop =>
          rintro D c2 pre W hD hpre hbad hK
          exact hbad.elim
        case done =>
          rintro D xs W hD hxs ⟨hI, hzW⟩ hK
          rw [HFE.out] at hxs
          subst hxs
          obtain ⟨⟨v, m0, m1, m2⟩, _, _, hop, hlie, hold, hbel⟩ := hI
          obtain ⟨A2, c2, rfl, hli, hm9, _, _, _⟩ := Lie.of_own m1
          have HLI := Lib.hid hli
          have cm : W.cell? ⟨mb, 0, none⟩ = some (.slice A2 xs.length c2) := m0.cell 0
          have HLA : Hid (Tb.LenAt W b xs.length) := Lib.hid ⟨_, _, _, hop, rfl⟩
          have HLL := Lib.hid hlie
          have hsm : Tb.Small xs := fun x hx => ⟨by have := (HFIT.out x hx).1; omega, by have := (HFIT.out x hx).2.1; omega⟩
          have HSM := Lib.hid hsm
          have hzb := hbel.size
          clear m1 m2 hli hop hlie hold hI1 hT hsm
          gi_wp2_with fail
          refine ⟨trivial, (callsIn_wide.2 (tbuild_any A2 xs.length c2 xs rfl hm9 HSM.out _ HLI.out)).mono ?_⟩
          rintro e Wa ⟨rfl, hba⟩
          rw [HRT.out]
          have HO3 : Hid (Tb.openE (Tb.built xs) = some xs) := Lib.hid (by unfold Tb.built; rw [if_pos HRT.out]; exact Tb.open_bytes HRT.out)
          have hSz3 : (Tb.built xs).size ≤ 800000000 := by
            unfold Tb.built
            rw [if_pos HRT.out, Tb.ba_size, Tb.bytes_len]
            have := Tb.body_bound HRT.out
            omega
          generalize Tb.built xs = S3 at *
          have HLA2 := Lib.hid (HLA.out.below hba)
          have HLL2 := Lib.hid (HLL.out.below hba)
          have m0a := m0.below hba m0.lt
          have hKa := (hba.block D (Array.getElem?_eq_some_iff.1 hK).1).trans hK
          have hBa := hbel.trans (hba.mono hzb)
          have hza := hBa.size
          clear cm m0 HLA HLL hK hba hbel HLI
          gi_wp2_with fail
          refine ⟨trivial, (callsIn_wide.2 (topen_any S3 hSz3 _)).mono ?_⟩
          intro e Wb hP
          unfold Tb.OpenP at hP
          rw [HO3.out] at hP
          obtain ⟨hbb', b3, hbb3, rfl, hop3⟩ := hP
          have HLB : Hid (Tb.LenAt Wb b3 xs.length) := Lib.hid ⟨_, _, _, hop3, rfl⟩
          have HLA3 := Lib.hid (HLA2.out.below hbb')
          have hK3 := (hbb'.block D (Array.getElem?_eq_some_iff.1 hKa).1).trans hKa
          have HLL3 := Lib.hid (HLL2.out.below hbb')
          have hB3 := hBa.trans (hbb'.mono hza)
          have cm : Wb.cell? ⟨mb, 0, none⟩ = some (.slice A2 xs.length c2) := (m0a.below hbb' m0a.lt).cell 0
          have tnn : ((xs.length : Int) != (xs.length : Int)) = false := by simp
          clear hop3 HLA2 HLL2 hKa m0a hbb' hBa
          gi_wp2_with fail
          refine wpIn_wide.2 ?_
          go_quiet ((exact Calls.quiet_of_same (tlen_k _ xs.length _ (by first | exact HLB.out.below (below_drewN (Below.refl _ _) _) | exact HLA3.out.below (below_drewN (Below.refl _ _) _)))))
          obtain ⟨w4, hw4⟩ : ∃ w4, Wb.drewN nq = w4 := ⟨_, rfl⟩
          have hb4 : Below Wb.heap.size Wb w4 := by rw [← hw4]; exact below_drewN (Below.refl _ _) _
          have hB4 := hB3.trans (hb4.mono hB3.size)
          have hK4 := (hb4.block D (Array.getElem?_eq_some_iff.1 hK3).1).trans hK3
          have Hl4 := Lib.hid (HLL3.out.below hb4)
          have hz4 := hB4.size
          rw [hw4]
          clear hw4 hb4 hB3 hK3 HLL3 HLA3 HLB cm tnn hza hzb

          -- the tail: worlds w4 (Below w, the list lies)
          gi_wp2_with fail
          refine ⟨trivial, (callsIn_wide.2 (tbuild_any A n c l Hn.out hm (Tb.great_small HG.out) _ Hl4.out)).mono ?_⟩
          rintro e w5 ⟨rfl, hb5⟩
          have hB5 := hB4.trans (hb5.mono hz4)
          have hz5 := hB5.size
          have hK5 := (hb5.block D (Array.getElem?_eq_some_iff.1 hK4).1).trans hK4
          obtain ⟨R, HR⟩ : ∃ R, Hid (Tb.right l = R) := ⟨_, Lib.hid rfl⟩
          rw [HR.out]
          by_cases hR : R = 0
          case neg =>
            have tR : ((R : Int) != 0) = true := by rw [bne_iff_ne]; omega
            clear hR
            gi_wp2_with fail
            (refine ⟨(by simp), .inl ⟨_, _, rfl, run_takeDeferred hK5, ?_⟩⟩; refine ⟨.bool true, ?_, rfl, (hB5).trans (belowK_b (w := w) (Nat.le_refl _) _ D _ _ (by omega) hK5 rfl rfl)⟩; simp [results, Try.f4, go_sem])
          subst hR
          simp only [Int.cast_ofNat_Int]
          have HO : Hid (Tb.openE (Tb.built l) ≠ none) := Lib.hid (by unfold Tb.built; rw [if_pos HR.out, Tb.open_bytes HR.out]; simp)
          have hSz : (Tb.built l).size ≤ 700000 := by
            unfold Tb.built
            rw [if_pos HR.out, Tb.ba_size, Tb.bytes_len]
            have := Tb.body_bound HR.out
            omega
          have hSp : 16 ≤ (Tb.built l).size := by
            unfold Tb.built
            rw [if_pos HR.out, Tb.ba_size, Tb.bytes_len]
            omega
          generalize Tb.built l = T at *
          gi_upto_region 24 with (fail)
          obtain ⟨k, hk, hkT⟩ : ∃ k : Nat, (wrap64 (at_.tmod (T.size : Int) + (T.size : Int))).tmod (T.size : Int) = (k : Int) ∧ k < T.size := Tb.mod_place at_ T.size (by omega) (by omega)
          rw [hk]
          clear hk
          have hki : (k : Int) ≤ (T.size : Int) := by omega
          have hcut := Tb.open_cut HO.out k hkT
          have HCUT : Hid (Tb.openE (T.extract 0 k) = none) := Lib.hid (by rw [← hcut]; congr 1; exact Tb.ext_list (by rw [Tb.ba_list, Lib.extract_data]; simp))
          have hes : (T.extract 0 k).size ≤ 800000000 := by simp; omega
          clear hcut
          gi_wp2_with fail
          refine ⟨trivial, (callsIn_wide.2 (topen_any _ hes _)).mono ?_⟩
          intro e w6 hP
          unfold Tb.OpenP at hP
          rw [HCUT.out] at hP
          obtain ⟨hb6, rfl⟩ := hP
          have hB6 := hB5.trans (hb6.mono hz5)
          have hz6 := hB6.size
          have hK6 := (hb6.block D (Array.getElem?_eq_some_iff.1 hK5).1).trans hK5
          clear hB5 HCUT hes
          gi_upto_region 27 with (fail)
          by_cases hop : 0 < other.size
          case' pos =>
            have hopi : (0 : Int) < (other.size : Int) := by omega
            have HMORE : Hid (Tb.openE (T ++ other) = none) := Lib.hid (Tb.open_more HO.out hop)
            have hms : (T ++ other).size ≤ 800000000 := by rw [ByteArray.size_append]; omega
            gi_wp2_with fail
            refine ⟨trivial, (callsIn_wide.2 (topen_any _ hms _)).mono ?_⟩
            intro e w7 hP
            unfold Tb.OpenP at hP
            rw [HMORE.out] at hP
            obtain ⟨hb7, rfl⟩ := hP
            have hB7 := hB6.trans (hb7.mono hz6)
            have hK7 := (hb7.block D (Array.getElem?_eq_some_iff.1 hK6).1).trans hK6
            clear HMORE hms
          case' neg =>
            have hopi : ¬ (0 : Int) < (other.size : Int) := by omega
            obtain ⟨w7, rfl⟩ : ∃ w7, w7 = w6 := ⟨_, rfl⟩
            have hB7 := hB6
            have hK7 := hK6
          all_goals
            have hz7 := hB7.size
            gi_upto_region 31 with (fail)
            clear hopi hop hB6 hb6
            by_cases hc0 : ch = 0
            · subst hc0
              gi_wp2_with fail
              (refine ⟨(by simp), .inl ⟨_, _, rfl, run_takeDeferred hK7, ?_⟩⟩; refine ⟨.bool true, ?_, rfl, (hB7).trans (belowK_b (w := w) (Nat.le_refl _) _ D _ _ (by omega) hK7 rfl rfl)⟩; simp [results, Try.f4, go_sem])
            · have hc2 := Tb.byte_range hch
              obtain ⟨cn, rfl⟩ := Int.eq_ofNat_of_zero_le hc2.1
              have hcn : cn < 256 := by omega
              have hcn0 : cn ≠ 0 := by omega
              have hcc : ((cn : Int) == 0) = false := by rw [beq_eq_false_iff_ne]; exact hc0
              clear hc0
              obtain ⟨cap, w8, hrun, hby, hb8, hlt8, hcap⟩ := bytes_of_string w7 T
              have hjs : k < T.data.toList.length := by simpa using hkT
              have hcell := hby.cell k hjs
              have hfree := hby.free k hjs
              obtain ⟨Y, hY⟩ : ∃ Y, T.data.toList[k] = Y := ⟨_, rfl⟩
              rw [hY] at hcell
              have hxor := xor_byte Y.toNat cn Y.toNat_lt hcn
              have hne := xor_byte_ne Y cn hcn hcn0
              have hbs := hby.set k (UInt8.ofNat (Y.toNat ^^^ cn)) hjs
              have hrun2 := string_of_bytes hbs cap
              have hlen : (T.data.toList.set k (UInt8.ofNat (Y.toNat ^^^ cn))).length = T.size := by simp
              rw [hlen] at hrun2
              have HSP : Hid (Tb.openE (Tb.ba (T.data.toList.set k (UInt8.ofNat (Y.toNat ^^^ cn)))) = none) := Lib.hid (Tb.open_spoilt HO.out k hjs _ (by rw [hY]; exact hne))
              have hki0 : (0 : Int) ≤ (k : Int) := by omega
              have hki1 : (k : Int) < (T.size : Int) := by omega
              have hB8 : Below w.heap.size w (w8.setCell ⟨w7.heap.size, k, none⟩ (.int .u8 (((UInt8.ofNat (Y.toNat ^^^ cn)).toNat : Nat) : Int))) := (hB7.trans (hb8.mono hz7)).setCell (p := ⟨w7.heap.size, k, none⟩) hz7 _
              have hK8 : (w8.setCell ⟨w7.heap.size, k, none⟩ (.int .u8 (((UInt8.ofNat (Y.toNat ^^^ cn)).toNat : Nat) : Int))).heap[D]? = _ := (KeepsOthers.setCell w8 ⟨w7.heap.size, k, none⟩ _).same D _ ((hb8.block D (Array.getElem?_eq_some_iff.1 hK7).1).trans hK7) rfl
              have hms : (Tb.ba (T.data.toList.set k (UInt8.ofNat (Y.toNat ^^^ cn)))).size ≤ 800000000 := by rw [Tb.ba_size, hlen]; omega
              unfold Tb.ba at HSP hms
              clear hne hcap hby hbs hjs hY hlen
              generalize UInt8.ofNat (Y.toNat ^^^ cn) = X at *
              generalize T.data.toList.set k X = l2 at *
              gi_wp2_with fail
              refine ⟨trivial, (callsIn_wide.2 (topen_any _ hms _)).mono ?_⟩
              intro e w9 hP
              unfold Tb.OpenP at hP
              rw [HSP.out] at hP
              obtain ⟨hb9, rfl⟩ := hP
              have hB9 := hB8.trans (hb9.mono hB8.size)
              have hK9 := (hb9.block D (Array.getElem?_eq_some_iff.1 hK8).1).trans hK8
              clear hrun hrun2 hcell hfree
              gi_wp2_with fail
              (refine ⟨(by simp), .inl ⟨_, _, rfl, run_takeDeferred hK9, ?_⟩⟩; refine ⟨.bool true, ?_, rfl, (hB9).trans (belowK_b (w := w) (Nat.le_refl _) _ D _ _ (by omega) hK9 rfl rfl)⟩; simp [results, Try.f4, go_sem])
end Go.Proofs.Ytdjccepchleacaa
