import Derived.Test.YtigcgdhihaibbaaDoorZ3
namespace Go.Proofs.YtigcgdhihaibbaaDoor.PLz
open Go.RowKit Go.Proofs.YtigcgdhihaibbaaDoorW.PrintWords Go.Proofs.YtigcgdhihaibbaaDoorW.PrintLast Go.Proofs.YtigcgdhihaibbaaDoorW.PrintMore
attribute [local go_sem] max2_int min2_int max_two min_two max_three min_three max_four min_four   -- for this text's walks alone
set_option linter.unusedVariables false
set_option linter.unusedSimpArgs false
def lz_ints (l : List Nat) : List Int := l.map Int.ofNat
structure lz_Seen (W : World) (B gm : Nat) (b : List Int) (at_ : Nat) (L : List ((Int × Int × Int) × Value)) : Prop where
  map : lz_Map W gm L
  row : ∀ k, Kd.R (Kd.int .i64) 3 W B (fun _ => True) (lz_get L k) (lz_ints (lz_poss b at_ k))
  apart : ∀ k k', k ≠ k' → (lz_get L k).ownBlock = none ∨ (lz_get L k).ownBlock ≠ (lz_get L k').ownBlock
theorem lz_ints_len (l : List Nat) : (lz_ints l).length = l.length := by simp [lz_ints]
theorem lz_ints_cell {W : World} {A : Option Addr} {l : List Nat} (h : Kd.C (Kd.int .i64) W A (lz_ints l).length (lz_ints l)) (j : Nat) (hj : j < l.length) : ∃ ad, A = some ad ∧ W.cell? (ad.add j) = some (.int .i64 (l.getD j 0 : Nat)) := by
  obtain ⟨h1, h2, h3⟩ := h
  obtain ⟨ad, rfl, hc⟩ := h3 (by rw [lz_ints_len]; omega)
  refine ⟨ad, rfl, ?_⟩
  obtain ⟨c, hcl, hk, hcell⟩ := hc j _ (List.getElem?_eq_getElem (by rw [lz_ints_len]; exact hj))
  have hj' : j < (lz_ints l).length := by rw [lz_ints_len]; exact hj
  have hk2 : c = [Value.int .i64 ((lz_ints l)[j]'hj')] := hk
  have := hcell 0 (Value.int .i64 ((lz_ints l)[j]'hj')) (by rw [hk2]; rfl)
  rw [show j * (Kd.int .i64).sz + 0 = j by show j * 1 + 0 = j; omega] at this
  rw [this]
  simp [lz_ints, hj]
theorem lz_poss_lt {b : List Int} {at_ : Nat} {k : Int × Int × Int} {j : Nat} (h : j < (lz_poss b at_ k).length) : (lz_poss b at_ k).getD j 0 < at_ := by
  have hm : (lz_poss b at_ k).getD j 0 ∈ lz_poss b at_ k := by rw [List.getD_eq_getElem?_getD, List.getElem?_eq_getElem h]; exact List.getElem_mem h
  have := (List.mem_filter.1 hm).1
  simpa using this
theorem lz_Map_next {W W' : World} {gm : Nat} {L : List ((Int × Int × Int) × Value)} (h : lz_Map W gm L) (hh : W'.heap[gm]? = W.heap[gm]?) : lz_Map W' gm L := by
  obtain ⟨es, clock, hb, r⟩ := h
  exact ⟨es, clock, hh.trans hb, r⟩
theorem lz_Map_lt {W : World} {gm : Nat} {L : List ((Int × Int × Int) × Value)} (h : lz_Map W gm L) : gm < W.heap.size := by
  obtain ⟨es, clock, hb, r⟩ := h
  exact (Array.getElem?_eq_some_iff.1 hb).1
theorem lz_Seen.below {W W' : World} {B gm : Nat} {b : List Int} {at_ : Nat} {L : List ((Int × Int × Int) × Value)} (h : lz_Seen W B gm b at_ L) (hb : Below W.heap.size W W') : lz_Seen W' B gm b at_ L :=
  ⟨lz_Map_next h.map (hb.block _ (lz_Map_lt h.map)), fun k => Kd.R_below (h.row k) hb, h.apart⟩
theorem lz_kb_key {b : List Int} {i : Nat} (h : ∀ x ∈ b, 0 ≤ x ∧ x < 256) (hi : i + 3 ≤ b.length) : lz_kb ((b.getD i 0), (b.getD (i + 1) 0), (b.getD (i + 2) 0)) := by
  have : ∀ j, j < b.length → 0 ≤ b.getD j 0 ∧ b.getD j 0 < 256 := fun j hj => h _ (by rw [List.getD_eq_getElem?_getD, List.getElem?_eq_getElem hj]; exact List.getElem_mem hj)
  exact ⟨this _ (by omega), this _ (by omega), this _ (by omega)⟩
theorem lz_best_stop {b : List Int} {at_ : Nat} {l : List Nat} {i q n : Nat} (h : 4096 < at_ - l.getD i 0 ∨ 16 < l.length - i) : lz_bestF b at_ l (i + 1) q n = (q, n) := by rw [lz_bestF, if_pos h]
theorem lz_best_take {b : List Int} {at_ : Nat} {l : List Nat} {i q n : Nat} (h : ¬ (4096 < at_ - l.getD i 0 ∨ 16 < l.length - i)) (h2 : n < lz_same b (l.getD i 0) at_ 67 0 ∧ (3 < lz_same b (l.getD i 0) at_ 67 0 ∨ at_ - l.getD i 0 ≤ 128)) : lz_bestF b at_ l (i + 1) q n = lz_bestF b at_ l i (l.getD i 0) (lz_same b (l.getD i 0) at_ 67 0) := by rw [lz_bestF, if_neg h, if_pos h2]
theorem lz_best_pass {b : List Int} {at_ : Nat} {l : List Nat} {i q n : Nat} (h : ¬ (4096 < at_ - l.getD i 0 ∨ 16 < l.length - i)) (h2 : ¬ (n < lz_same b (l.getD i 0) at_ 67 0 ∧ (3 < lz_same b (l.getD i 0) at_ 67 0 ∨ at_ - l.getD i 0 ≤ 128))) : lz_bestF b at_ l (i + 1) q n = lz_bestF b at_ l i q n := by rw [lz_bestF, if_neg h, if_neg h2]
theorem lz_same_le (b : List Int) (p at_ : Nat) : ∀ (f n : Nat), n ≤ 66 → lz_same b p at_ f n ≤ 66
  | 0, n, h => h
  | f + 1, n, h => by
    rw [lz_same]
    split
    · rename_i hc
      exact lz_same_le b p at_ f (n + 1) (by omega)
    · exact h
theorem lz_best_end {W w' : World} {q n r1 r2 : Nat} (h : (q, n) = (r1, r2)) (hB : Below W.heap.size W w') : Ending.returned (.tuple #[.int .i64 (q : Int), .int .i64 (n : Int)]) = .returned (.tuple #[.int .i64 ((r1, r2).1 : Int), .int .i64 ((r1, r2).2 : Int)]) ∧ Below W.heap.size W w' := by
  cases h
  exact ⟨rfl, hB⟩
set_option maxHeartbeats 2000000 in
theorem lz_best_calls (W : World) (B g gm : Nat) (A : Option Addr) (c : Nat) (b : List Int) (at_ plain : Nat) (vo : Value) (L : List ((Int × Int × Int) × Value)) (hg : lz_Blk W g A b.length c at_ gm vo plain) (hC : Kd.C (Kd.int .u8) W A b.length b) (hc : b.length ≤ c) (hat : at_ < b.length) (hl : b.length ≤ 1000000) (hS : lz_Seen W B gm b at_ L) (hkb : ∀ x ∈ b, 0 ≤ x ∧ x < 256) :
    Calls Tryd.prog 28 #[.pointer (some ⟨g, 0, none⟩)] W fun e w' => e = .returned (.tuple #[.int .i64 (lz_best b at_).1, .int .i64 (lz_best b at_).2]) ∧ Below W.heap.size W w' := by
  have hc1 : W.cell? ⟨g, 1, none⟩ = some (.int .i64 at_) := blk_cell hg 1
  have HC := Lib.hid hC
  have HG := Lib.hid hg
  have HS := Lib.hid hS
  have HK := Lib.hid hkb
  clear hC hg hS hkb
  by_cases h3 : at_ + 3 ≤ b.length
  · have hb : lz_best b at_ = lz_bestF b at_ (lz_poss b at_ (lz_key b at_)) (lz_poss b at_ (lz_key b at_)).length 0 0 := by unfold lz_best; rw [if_pos h3]
    obtain ⟨R, hR⟩ : ∃ R, lz_best b at_ = R := ⟨_, rfl⟩
    rw [hR] at hb ⊢
    obtain ⟨l, hl⟩ : ∃ l, lz_poss b at_ (lz_key b at_) = l := ⟨_, rfl⟩
    obtain ⟨r1, r2⟩ := R
    have hll := fun j (h : j < (lz_poss b at_ (lz_key b at_)).length) => lz_poss_lt h
    rw [hl] at hb hll
    have HB := Lib.hid hb
    have HLL := Lib.hid hll
    have HL := Lib.hid hl
    clear hb hR hl hll
    go_enter Tryd.func28, Tryd.ntmps28
    go_wp2_with fail
    go_step3
    go_wp2_with fail
    refine (lz_three_yes W g gm A c b at_ at_ plain vo HG.out HC.out (by omega) h3 (by omega)).mono ?_; rintro e w1 ⟨rfl, hB1⟩
    obtain ⟨x, y, z, hkey, hkb⟩ : ∃ x y z : Int, lz_key b at_ = (x, y, z) ∧ lz_kb (x, y, z) := ⟨_, _, _, rfl, lz_kb_key HK.out h3⟩
    have HKB := Lib.hid hkb
    have hkv : lz_kv (lz_key b at_) = .agg #[.int .u8 x, .int .u8 y, .int .u8 z] := by rw [hkey]; rfl
    rw [hkv]
    have HKV := Lib.hid hkv
    have HKEY := Lib.hid hkey
    clear hkb hkv hkey
    have hB2 : Below W.heap.size W (w1.alloc (.cells #[.int .u8 x, .int .u8 y, .int .u8 z] 86)) := below_alloc hB1 _
    have hc1 := pw_cell_below hB2 hc1
    have hc2 : (w1.alloc (.cells #[.int .u8 x, .int .u8 y, .int .u8 z] 86)).cell? ⟨g, 2, none⟩ = some (.map (some gm)) := pw_cell_below hB2 (blk_cell HG.out 2)
    have HS2 := Lib.hid (HS.out.below hB2)
    have HG2 : Hid (lz_Blk (w1.alloc (.cells #[.int .u8 x, .int .u8 y, .int .u8 z] 86)) g A b.length c at_ gm vo plain) := Lib.hid ((hB2.block _ (blk_lt HG.out)).trans HG.out)
    have HC2 := Lib.hid (Kd.C_below HC.out hB2)
    have HB2 := Lib.hid hB2
    have hlk := fun n => lz_lookup (W := (w1.alloc (.cells #[.int .u8 x, .int .u8 y, .int .u8 z] 86)).drewN n) (lz_Map_next HS2.out.map rfl) (x, y, z) HKB.out
    obtain ⟨v, hv⟩ : ∃ v, lz_get L (x, y, z) = v := ⟨_, rfl⟩
    have hrow := HS2.out.row (x, y, z)
    rw [hv] at hlk hrow
    rw [← HKEY.out, HL.out] at hrow
    have hlk : ∀ n : Nat, (Instr.lookup 67 (.map (some gm)) (.agg #[.int .u8 x, .int .u8 y, .int .u8 z]) false).run Tryd.prog ((w1.alloc (.cells #[.int .u8 x, .int .u8 y, .int .u8 z] 86)).drewN n) = .ok v ((w1.alloc (.cells #[.int .u8 x, .int .u8 y, .int .u8 z] 86)).drewN n) := hlk
    have HV := Lib.hid hv
    obtain ⟨ar, cr, hvr, hcr, hCr⟩ := Kd.R_reads hrow
    rw [lz_ints_len] at hvr hcr
    subst hvr
    have HCR := Lib.hid hCr
    clear hB1 hB2 hv hrow hCr
    go_wp2_with fail
    go_quiet (fail)
    clear hlk
    obtain ⟨w2, hw2⟩ : ∃ w2, w1.alloc (.cells #[.int .u8 x, .int .u8 y, .int .u8 z] 86) = w2 := ⟨_, rfl⟩
    obtain ⟨p6, hp6⟩ : ∃ p6, w1.heap.size = p6 := ⟨_, rfl⟩
    rw [hw2] at hc1 hc2 HS2 HG2 HC2 HB2 HCR ⊢
    rw [hp6]
    clear hw2 hp6
    have hllen : l.length ≤ 1000000 := by
      have := HL.out
      rw [← this]
      refine Nat.le_trans (List.length_filter_le _ _) ?_
      rw [List.length_range]; omega
    go_wp2_with fail
    go_step3
    go_wp2_with fail
    go_loopw [4, 5, 9] (fun vq vn vi wr => ∃ (q n j m : Nat) (zi : Int), vq = .int .i64 q ∧ vn = .int .i64 n ∧ vi = .int .i64 zi ∧ zi + 1 = j ∧ j ≤ l.length ∧ n ≤ 66 ∧ wr = w2.drewN m ∧ Hid (lz_bestF b at_ l j q n = (r1, r2))) (fun _ _ vi _ => (intOf vi + 1).toNat)
    case atStart => exact ⟨0, 0, l.length, nq, _, rfl, rfl, rfl, by omega, by omega, by omega, rfl, Lib.hid HB.out.symm⟩
    case round =>
      obtain ⟨q, n, j, m, zi, rfl, rfl, rfl, hj, hjl, hn, rfl, HF⟩ := hrel
      by_cases hz : 0 ≤ zi
      · obtain ⟨jj, rfl⟩ : ∃ jj : Nat, j = jj + 1 := ⟨j - 1, by omega⟩
        have hzi : zi = jj := by omega
        subst hzi
        obtain ⟨ad, rfl, hcell⟩ := lz_ints_cell HCR.out jj (by omega)
        have hpl := HLL.out jj (by omega)
        obtain ⟨p, hp⟩ : ∃ p, l.getD jj 0 = p := ⟨_, rfl⟩
        rw [hp] at hcell hpl
        have HP := Lib.hid hp
        clear hp
        have hjl' : (jj : Int) < l.length := by omega
        by_cases h1 : 4096 < at_ - p
        · have d1 : decide ((4096 : Int) < (at_ : Int) - p) = true := by simp; omega
          have HN := Lib.hid ((lz_best_stop (b := b) (q := q) (n := n) (.inl (by rw [HP.out]; exact h1))).symm.trans HF.out)
          go_wp2_with fail
          go_quiet (fail)
          go_wp2_with fail
          (try rw [Exit.noGoto_ret])
          go_ret2
          exact lz_best_end HN.out (pw_below_drewN (pw_below_drewN HB2.out _) _)
        · have d1 : decide ((4096 : Int) < (at_ : Int) - p) = false := by simp; omega
          by_cases h2 : 16 < l.length - jj
          · have d2 : decide ((16 : Int) < (l.length : Int) - jj) = true := by simp; omega
            have HN := Lib.hid ((lz_best_stop (b := b) (at_ := at_) (q := q) (n := n) (.inr h2)).symm.trans HF.out)
            go_wp2_with fail
            go_quiet (fail)
            go_wp2_with fail
            (try rw [Exit.noGoto_ret])
            go_ret2
            exact lz_best_end HN.out (pw_below_drewN (pw_below_drewN HB2.out _) _)
          · have d2 : decide ((16 : Int) < (l.length : Int) - jj) = false := by simp; omega
            have hno : ¬ (4096 < at_ - l.getD jj 0 ∨ 16 < l.length - jj) := by rw [HP.out]; omega
            have HNO := Lib.hid hno
            clear hno
            go_wp2_with fail
            go_quiet (fail)
            go_wp2_with fail
            refine (lz_same_calls (w2.drewN (m + nq)) g gm A c b at_ p plain vo (show lz_Blk (w2.drewN (m + nq)) g A b.length c at_ gm vo plain from HG2.out) (Kd.C_drewN HC2.out _) hpl (by omega) (by omega)).mono ?_; rintro e w3 ⟨rfl, m3, rfl⟩
            obtain ⟨sm, hsm⟩ : ∃ sm, lz_same b p at_ 67 0 = sm := ⟨_, rfl⟩
            have hsmle := lz_same_le b p at_ 67 0 (by omega)
            rw [hsm] at hsmle
            rw [hsm]
            have HSM := Lib.hid hsm
            clear hsm
            by_cases c1 : n < sm
            · have e1 : decide ((n : Int) < sm) = true := by simp; omega
              by_cases c2 : 3 < sm
              · have e2 : decide ((3 : Int) < sm) = true := by simp; omega
                have HN := Lib.hid ((lz_best_take HNO.out (by rw [HP.out, HSM.out]; exact ⟨c1, .inl c2⟩)).symm.trans HF.out)
                have HN2 : Hid (lz_bestF b at_ l jj p sm = (r1, r2)) := Lib.hid (by have := HN.out; rw [HP.out, HSM.out] at this; exact this)
                clear HN
                have HN := HN2
                clear HN2
                go_wp2_with fail
                go_quiet (fail)
                go_wp2_with fail
                exact ⟨⟨p, sm, jj, _, _, rfl, rfl, rfl, by omega, by omega, by omega, rfl, HN⟩, by simp [intOf] <;> omega⟩
              · have e2 : decide ((3 : Int) < sm) = false := by simp; omega
                by_cases c3 : at_ - p ≤ 128
                · have e3 : decide ((at_ : Int) - p ≤ 128) = true := by simp; omega
                  have HN2 : Hid (lz_bestF b at_ l jj p sm = (r1, r2)) := Lib.hid (by
                    have := (lz_best_take (q := q) HNO.out (by rw [HP.out, HSM.out]; exact ⟨c1, .inr c3⟩)).symm.trans HF.out
                    rw [HP.out, HSM.out] at this; exact this)
                  have HN := HN2
                  clear HN2
                  go_wp2_with fail
                  go_quiet (fail)
                  go_wp2_with fail
                  exact ⟨⟨p, sm, jj, _, _, rfl, rfl, rfl, by omega, by omega, by omega, rfl, HN⟩, by simp [intOf] <;> omega⟩
                · have e3 : decide ((at_ : Int) - p ≤ 128) = false := by simp; omega
                  have HN := Lib.hid ((lz_best_pass (q := q) HNO.out (by rw [HP.out, HSM.out]; exact fun h => h.2.elim c2 c3)).symm.trans HF.out)
                  go_wp2_with fail
                  go_quiet (fail)
                  go_wp2_with fail
                  exact ⟨⟨q, n, jj, _, _, rfl, rfl, rfl, by omega, by omega, by omega, rfl, HN⟩, by simp [intOf] <;> omega⟩
            · have e1 : decide ((n : Int) < sm) = false := by simp; omega
              have HN := Lib.hid ((lz_best_pass (q := q) HNO.out (by rw [HP.out, HSM.out]; exact fun h => c1 h.1)).symm.trans HF.out)
              go_wp2_with fail
              go_quiet (fail)
              go_wp2_with fail
              exact ⟨⟨q, n, jj, _, _, rfl, rfl, rfl, by omega, by omega, by omega, rfl, HN⟩, by simp [intOf] <;> omega⟩
      · go_wp2_with fail
        have hj0 : j = 0 := by omega
        subst hj0
        (try rw [Exit.noGoto_ret])
        go_ret2
        exact lz_best_end HF.out (pw_below_drewN HB2.out _)
  · have hb : lz_best b at_ = (0, 0) := by unfold lz_best; rw [if_neg h3]
    rw [hb]
    clear hb
    go_enter Tryd.func28, Tryd.ntmps28
    go_wp2_with fail
    go_step3
    go_wp2_with fail
    refine (lz_three_no W g gm A c b at_ at_ plain vo HG.out h3 (by omega) (by omega)).mono ?_; rintro e w1 ⟨rfl, hB1⟩
    have HB1 := Lib.hid hB1
    clear hB1
    go_wp2_with fail
    (try rw [Exit.noGoto_ret])
    go_ret2
    exact ⟨rfl, below_alloc HB1.out _⟩
end Go.Proofs.YtigcgdhihaibbaaDoor.PLz
