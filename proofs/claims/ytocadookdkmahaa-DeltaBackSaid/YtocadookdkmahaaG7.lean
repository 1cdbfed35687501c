/- Layer 3 (delta): Apply's walk. -/
import Derived.Test.YtocadookdkmahaaG6
namespace Go.Proofs.Ytocadookdkmahaa.PDl
open Go.RowKit Go.Proofs.YtocadookdkmahaaW.PrintWords Go.Proofs.YtocadookdkmahaaW.PrintLast Go.Proofs.YtocadookdkmahaaW.PrintMore
open Go.Proofs.Ytocadookdkmahaa.PLz (IsB lz_get_cell wire_form info5 IsS72 wire_lit wire_Reader_Int.f wire_Reader_Text.f wire_bytes)
open Go.Proofs.Ytocadookdkmahaa.PDeltaDiffs (delta_mix.f delta_mix.calls slices_Equal_byte_byte.f slices_Equal_byte_byte.calls)
attribute [local go_sem] max2_int min2_int max_two min_two max_three min_three max_four min_four   -- for this text's walks alone
set_option linter.unusedVariables false
set_option linter.unusedSimpArgs false
set_option maxHeartbeats 4000000
set_option maxRecDepth 20000
/-- the tokens, laid over zeros; e: why not -/
def dl_ap (d : List Int) (n : Int) : Nat → Int → Int → List Int → Option (List Int × Int)
  | 0, _, _, _ => none
  | f + 1, p, at_, xs =>
    if 0 ≤ p ∧ p ≤ d.length ∧ 0 ≤ at_ ∧ at_ ≤ n ∧ n ≤ 4000 ∧ (xs.length : Int) = n then
      (if p < d.length then
        (wire_Reader_Int.f d p 0).bind fun v => if ¬ (0 ≤ v.1 ∧ v.1 ≤ 2147483647) then none else if v.2.2 = 0 ∧ n - at_ < v.1 then some ([], 4) else
          (wire_Reader_Text.f d v.2.1 v.2.2 (n - at_ - v.1)).bind fun u => if u.2.2 ≠ 0 then some ([], u.2.2) else
            if (u.1.size : Int) ≤ n - at_ - v.1 ∧ v.2.2 = 0 then dl_ap d n f u.2.1 (at_ + v.1 + u.1.size) (dl_lay xs (at_ + v.1).toNat (bytesOf u.1)) else none
      else some (xs, 0))
    else none
def dl_apply (k : Nat) (a d : List Int) (most : Int) : Option (List Int × Int) :=
  (wire_Reader_Int.f d 0 0).bind fun v => if v.2.2 ≠ 0 then some ([], v.2.2) else if most < v.1 then some ([], 6) else if ¬ (0 ≤ v.1 ∧ v.1 ≤ 4000) then none else
    (dl_ap d v.1 k v.2.1 0 (List.replicate v.1.toNat 0)).bind fun u => if u.2 ≠ 0 then some ([], u.2) else
      (delta_mix.f k a u.1).bind fun out => (delta_mix.f k a out).bind fun M => if wire_bytes M = true ∧ M.length ≤ 4000 ∧ out.length ≤ 4000 then
        (slices_Equal_byte_byte.f k (dl_diff M out.length) d).bind fun q => if q = true then some (out, 0) else some ([], 4) else none
def dl_appPost (w : World) (y : List Int) (e : Int) (en : Ending) (w' : World) : Prop := ∃ (A : Option Addr) (c : Nat), en = .returned (.tuple #[.slice A y.length c, .int .i64 e]) ∧ y.length ≤ c ∧ Kd.C (Kd.int .u8) w' A y.length y ∧ Below w.heap.size w w'
theorem dl_appNil {w w' : World} {e : Int} {y : List Int} (hb : Below w.heap.size w w') (hy : y = []) : dl_appPost w y e (.returned (.tuple #[.slice none 0 0, .int .i64 e])) w' := by
  subst hy
  exact ⟨none, 0, rfl, Nat.le_refl _, Kd.C_nil _ _, hb⟩
theorem dl_put (w W : World) (g gx N mm : Nat) (d xs : List Int) (lit : ByteArray) (hx : XB W gx xs) (hl : xs.length = N) (hm : mm + lit.size ≤ N) (hw : w.heap.size ≤ gx) :
    ∃ off', (∀ V : World, (Instr.slice 22 (.slice (some ⟨gx, 0, none⟩) N N) (some (.int .i64 (mm : Int))) none none).run Try.prog V = .ok (.slice (some ⟨gx, off', none⟩) (N - mm) (N - mm)) V) ∧
      ∃ W', (Builtin.copy_ #[22, 9] 3 #[.slice (some ⟨gx, off', none⟩) (N - mm) (N - mm), .string lit]).run Try.prog W = .ok (.int .i64 (lit.size : Int)) W' ∧ XB W' gx (dl_lay xs mm (bytesOf lit)) ∧
        (∀ p e, IsS72 w W g d p e → IsS72 w W' g d p e) ∧ (Below w.heap.size w W → Below w.heap.size w W') := by
  obtain ⟨i0, hi, hzz⟩ := Option.map_eq_some_iff.1 info5
  simp only [Prod.mk.injEq] at hzz
  obtain ⟨hz0, hz1, hz2⟩ := hzz
  have hel : Try.prog.elem 22 = 5 := by simp [Program.elem, Try.underlying22]
  have hu : Try.prog.underlying 22 = some (.slice (Try.prog.elem 22)) := by rw [hel]; exact Try.underlying22
  by_cases he : N = mm
  · have h0 : lit.size = 0 := by omega
    have hb : bytesOf lit = [] := List.length_eq_zero_iff.1 (by rw [bytesOf_length]; exact h0)
    refine ⟨0, fun V => ?_, _, dl_copy W gx 0 (N - mm) (N - mm) xs lit hx (by omega) (by omega), ?_, fun p e h => ?_, fun h => ?_⟩
    · rw [run_slice_l V 22 (some ⟨gx, 0, none⟩) N N hu .i64 (mm : Int) (Int.natCast_nonneg _) (by omega), hel]
      simp [sizeOf, typeInfo, hi, hz1, sliced, Result.andThen, he]
    · rw [hb]; exact hx
    · rw [hb]; exact h
    · rw [hb]; exact h
  · refine ⟨mm, fun V => ?_, _, dl_copy W gx mm (N - mm) (N - mm) xs lit hx (by omega) (by omega), xb_lay _ _ _ _ _ hx, fun p e h => is_lay (p := 0) h (is_ne h hx) _ _, fun h => below_setCells hw _ _ _ h⟩
    rw [run_slice_l V 22 (some ⟨gx, 0, none⟩) N N hu .i64 (mm : Int) (Int.natCast_nonneg _) (by omega), hel]
    simp [sizeOf, typeInfo, hi, hz1, sliced, Result.andThen, he, Addr.add]
    exact fun h => h.symm
theorem apply_calls (k : Nat) (A0 : Option Addr) (c0 : Nat) (a : List Int) (A1 : Option Addr) (c1 : Nat) (d : List Int) (most : Int) (y : List Int) (e : Int) (w : World) (hr0 : Kd.C (Kd.int .u8) w A0 a.length a) (hc0 : a.length ≤ c0) (hr1 : Kd.C (Kd.int .u8) w A1 d.length d) (hc1 : d.length ≤ c1)
    (hd : d.length ≤ 100000) (h : dl_apply k a d most = some (y, e)) :
    Calls Try.prog 11 #[.slice A0 a.length c0, .slice A1 d.length c1, .int .i64 most] w (dl_appPost w y e) := by
  obtain ⟨⟨n, p, e1⟩, hint, h⟩ := Option.bind_eq_some_iff.1 h
  simp only at h
  have HR0 := Lib.hid hr0
  have HR1 := Lib.hid hr1
  have HINT := Lib.hid hint
  have H := Lib.hid h
  clear hr0 hr1 hint h
  go_enter Try.func11, Try.ntmps11
  go_wp2_with fail
  refine (PLz.wire_Of.calls A1 c1 d d 0 0 w w (Below.refl _ _) HR1.out hc1 rfl).mono ?_; rintro en w1 ⟨g, rfl, hI1, hB1, _⟩
  have HI1 := Lib.hid hI1
  have HB1 := Lib.hid hB1
  clear hI1 hB1
  go_wp2_with fail
  refine (PLz.wire_Reader_Int.calls g d 0 0 n p e1 w w1 HI1.out HB1.out HINT.out).mono ?_; rintro en w2 ⟨rfl, hI2, hB2, _⟩
  have HI2 := Lib.hid hI2
  have HB2 := Lib.hid hB2
  have HER := Lib.hid (PLz.wire_Err_ro g d p e1 w w2 hI2)
  clear hI2 hB2 HI1 HB1
  by_cases he1 : e1 = 0
  · subst he1
    have hq := H.out
    rw [if_neg (by simp)] at hq
    by_cases hmost : most < n
    · rw [if_pos hmost] at hq
      obtain ⟨rfl, rfl⟩ : [] = y ∧ (6 : Int) = e := by simpa using hq
      go_wp2_with fail
      refine HER.out.mono ?_; rintro en w3 ⟨rfl, rfl⟩
      go_wp2_with fail
      go_ret2
      exact dl_appNil HB2.out rfl
    · rw [if_neg hmost] at hq
      by_cases hn : ¬ (0 ≤ n ∧ n ≤ 4000)
      · rw [if_pos hn] at hq; cases hq
      · rw [if_neg hn] at hq
        obtain ⟨N, rfl⟩ : ∃ N : Nat, n = N := ⟨n.toNat, by omega⟩
        have hN : N ≤ 4000 := by omega
        obtain ⟨⟨xs1, e2⟩, hap, hq⟩ := Option.bind_eq_some_iff.1 hq
        rw [Int.toNat_natCast] at hap
        have HAP := Lib.hid hap
        have HQ := Lib.hid hq
        obtain ⟨w3, mk3, hx3, b3⟩ := dl_room w2 N (by omega)
        have HX3 := Lib.hid hx3
        have HI3 := Lib.hid (HI2.out.below b3)
        have HB3 := Lib.hid (below_then HB2.out HB2.out.size b3)
        obtain ⟨gx, hgx⟩ : ∃ gx, w2.heap.size = gx := ⟨_, rfl⟩
        have hgxw : w.heap.size ≤ gx := by rw [← hgx]; exact HB2.out.size
        rw [hgx] at mk3 HX3
        clear hap hq hx3 b3 H HI2 hn hgx
        go_wp2_with fail
        refine HER.out.mono ?_; rintro en w4 ⟨rfl, rfl⟩
        clear HER HINT
        clear hq h
        go_wp2_with fail
        go_loopg [11] k (fun kq v11 w' => ∃ (p at_ : Int) (xs : List Int), v11 = .int .i64 at_ ∧ Hid (dl_ap d (N : Int) kq p at_ xs = some (xs1, e2)) ∧ Hid (kq ≤ k) ∧ Hid (IsS72 w w' g d p 0) ∧ Hid (XB w' gx xs) ∧ Hid (Below w.heap.size w w'))
        case atStart => exact ⟨p, 0, _, rfl, HAP, Lib.hid (Nat.le_refl _), HI3, HX3, HB3⟩
        case round =>
          clear HAP HI3 HX3 HB3 mk3 HB2
          obtain ⟨p, at_, xs, rfl, HA, HK1, HI, HX, HB⟩ := hrel
          cases gk with
          | zero => exact absurd HA.out (by simp [dl_ap])
          | succ k1 =>
            have H := HA.out
            clear HA
            rw [dl_ap] at H
            by_cases hG : 0 ≤ p ∧ p ≤ d.length ∧ 0 ≤ at_ ∧ at_ ≤ N ∧ (N : Int) ≤ 4000 ∧ (xs.length : Int) = N
            · rw [if_pos hG] at H
              obtain ⟨q1, q2, q3, q4, q5, q6⟩ := hG
              have HLF := Lib.hid (PLz.wire_Left_ro g d p 0 w _ HI.out ⟨q1, q2⟩ (by omega))
              by_cases hp : p < d.length
              · rw [if_pos hp] at H
                obtain ⟨⟨z, p1, ez⟩, hint2, H⟩ := Option.bind_eq_some_iff.1 H
                simp only at H
                by_cases hzr : ¬ (0 ≤ z ∧ z ≤ 2147483647)
                · rw [if_pos hzr] at H; cases H
                rw [if_neg hzr] at H
                have hzr2 : 0 ≤ z ∧ z ≤ 2147483647 := by omega
                have hpl : 0 < (d.length : Int) - p := by omega
                have HINT2 := Lib.hid hint2
                have H2 := Lib.hid H
                clear hint2 H hzr
                go_wp2_with fail
                refine HLF.out.mono ?_; rintro en w5 ⟨rfl, m5, rfl⟩
                have HI5 := Lib.hid (HI.out.drewN m5)
                have HX5 := Lib.hid (show XB (wr.drewN m5) gx xs from HX.out)
                have HB5 := Lib.hid (pw_below_drewN HB.out m5)
                clear HLF HI HX HB
                go_wp2_with fail
                refine (PLz.wire_Reader_Int.calls g d p 0 z p1 ez w _ HI5.out HB5.out HINT2.out).mono ?_; rintro en w6 ⟨rfl, hI6, hB6, hK6⟩
                have HI6 := Lib.hid hI6
                have HB6 := Lib.hid hB6
                have HX6 : Hid (XB w6 gx xs) := Lib.hid (hK6.blk HX5.out (fun e => is_ne HI5.out HX5.out e.symm) (by simp))
                have HER6 := Lib.hid (PLz.wire_Err_ro g d p1 ez w w6 hI6)
                clear hI6 hB6 hK6 HI5 HX5 HB5 HINT2
                by_cases hez : ez = 0
                · subst hez
                  have H3 := H2.out
                  by_cases hzn : (N : Int) - at_ < z
                  · rw [if_pos ⟨rfl, hzn⟩] at H3
                    obtain ⟨rfl, rfl⟩ : [] = xs1 ∧ (4 : Int) = e2 := by simpa using H3
                    have hq2 := HQ.out
                    rw [if_pos (by decide)] at hq2
                    obtain ⟨rfl, rfl⟩ : [] = y ∧ (4 : Int) = e := by simpa using hq2
                    have hw1 : IntKind.i64.wrap ((N : Int) - at_) = (N : Int) - at_ := IntWalk.i64_in _ (by omega)
                    clear hq2 H3 H2
                    go_wp2_with fail
                    refine HER6.out.mono ?_; rintro en w7 ⟨rfl, rfl⟩
                    go_wp2_with fail
                    go_ret2
                    exact dl_appNil HB6.out rfl
                  · rw [if_neg (fun h => hzn h.2)] at H3
                    clear H2
                    obtain ⟨⟨lit, p2, ez2⟩, htext, H3⟩ := Option.bind_eq_some_iff.1 H3
                    simp only at H3
                    have HTX := Lib.hid htext
                    have H4 := Lib.hid H3
                    have hw1 : IntKind.i64.wrap ((N : Int) - at_) = (N : Int) - at_ := IntWalk.i64_in _ (by omega)
                    have hw2 : IntKind.i64.wrap ((N : Int) - at_ - z) = (N : Int) - at_ - z := IntWalk.i64_in _ (by omega)
                    clear htext H3
                    go_wp2_with fail
                    refine HER6.out.mono ?_; rintro en w7 ⟨rfl, rfl⟩
                    go_wp2_with fail
                    refine (PLz.wire_Reader_Text.calls g d p1 0 ((N : Int) - at_ - z) lit p2 ez2 w _ HI6.out HB6.out HTX.out).mono ?_; rintro en w8 ⟨rfl, hI8, hB8, hK8⟩
                    have HI8 := Lib.hid hI8
                    have HB8 := Lib.hid hB8
                    have HX8 : Hid (XB w8 gx xs) := Lib.hid (hK8.blk HX6.out (fun e => is_ne HI6.out HX6.out e.symm) (by simp))
                    have HER8 := Lib.hid (PLz.wire_Err_ro g d p2 ez2 w w8 hI8)
                    clear hI8 hB8 hK8 HI6 HX6 HB6 HTX HER6
                    by_cases he2 : ez2 ≠ 0
                    · have hq := H4.out
                      rw [if_pos he2] at hq
                      obtain ⟨rfl, rfl⟩ : [] = xs1 ∧ ez2 = e2 := by simpa using hq
                      have hq2 := HQ.out
                      rw [if_pos he2] at hq2
                      obtain ⟨rfl, rfl⟩ : [] = y ∧ ez2 = e := by simpa using hq2
                      clear hq hq2
                      go_wp2_with fail
                      refine HER8.out.mono ?_; rintro en w9 ⟨rfl, rfl⟩
                      go_wp2_with fail
                      refine HER8.out.mono ?_; rintro en w10 ⟨rfl, rfl⟩
                      go_wp2_with fail
                      go_ret2
                      exact dl_appNil HB8.out rfl
                    · obtain rfl : ez2 = 0 := by omega
                      have hq := H4.out
                      rw [if_neg he2] at hq
                      by_cases hsz : (lit.size : Int) ≤ (N : Int) - at_ - z ∧ True
                      · rw [if_pos hsz] at hq
                        obtain ⟨mm, hmm⟩ : ∃ mm : Nat, at_ + z = (mm : Int) := ⟨(at_ + z).toNat, by omega⟩
                        have hmt : (at_ + z).toNat = mm := by omega
                        rw [hmt] at hq
                        have HREC := Lib.hid hq
                        obtain ⟨off', hcut, W9, hcopy, hx9, hi9, hb9⟩ := dl_put w w8 g gx N mm d xs lit HX8.out (by omega) (by omega) hgxw
                        have HI9 := Lib.hid (hi9 _ _ HI8.out)
                        have HB9 := Lib.hid (hb9 HB8.out)
                        have HX9 := Lib.hid hx9
                        have hw3 : IntKind.i64.wrap (at_ + z) = (mm : Int) := by rw [hmm]; exact IntWalk.i64_in _ (by omega)
                        have hw4 : IntKind.i64.wrap (z + (lit.size : Int)) = z + (lit.size : Int) := IntWalk.i64_in _ (by omega)
                        have hw5 : IntKind.i64.wrap (at_ + (z + (lit.size : Int))) = at_ + z + (lit.size : Int) := by rw [IntWalk.i64_in _ (by omega)]; omega
                        clear hq hx9 hi9 hb9 hmt HI8 HB8 HX8 H4 hmm
                        go_wp2_with fail
                        refine HER8.out.mono ?_; rintro en w9 ⟨rfl, rfl⟩
                        go_wp2_with fail
                        go_roundg k1
                        case measure => have := HK1.out; omega
                        case rel => exact ⟨p2, at_ + z + lit.size, _, rfl, HREC, Lib.hid (by have := HK1.out; omega), HI9, HX9, HB9⟩
                      · rw [if_neg hsz] at hq; cases hq
                · have H3 := H2.out
                  rw [if_neg (fun h => hez h.1)] at H3
                  have hezb : (ez == 0) = false := by simpa using hez
                  clear H2
                  obtain ⟨⟨lit, p2, ez2⟩, htext, H3⟩ := Option.bind_eq_some_iff.1 H3
                  simp only at H3
                  have HTX := Lib.hid htext
                  have H4 := Lib.hid H3
                  have hw1 : IntKind.i64.wrap ((N : Int) - at_) = (N : Int) - at_ := IntWalk.i64_in _ (by omega)
                  have hw2 : IntKind.i64.wrap ((N : Int) - at_ - z) = (N : Int) - at_ - z := IntWalk.i64_in _ (by omega)
                  clear htext H3
                  go_wp2_with fail
                  refine HER6.out.mono ?_; rintro en w7 ⟨rfl, rfl⟩
                  go_wp2_with fail
                  refine (PLz.wire_Reader_Text.calls g d p1 ez ((N : Int) - at_ - z) lit p2 ez2 w _ HI6.out HB6.out HTX.out).mono ?_; rintro en w8 ⟨rfl, hI8, hB8, hK8⟩
                  have HI8 := Lib.hid hI8
                  have HB8 := Lib.hid hB8
                  have HX8 : Hid (XB w8 gx xs) := Lib.hid (hK8.blk HX6.out (fun e => is_ne HI6.out HX6.out e.symm) (by simp))
                  have HER8 := Lib.hid (PLz.wire_Err_ro g d p2 ez2 w w8 hI8)
                  clear hI8 hB8 hK8 HI6 HX6 HB6 HTX HER6
                  by_cases he2 : ez2 ≠ 0
                  · have hq := H4.out
                    rw [if_pos he2] at hq
                    obtain ⟨rfl, rfl⟩ : [] = xs1 ∧ ez2 = e2 := by simpa using hq
                    have hq2 := HQ.out
                    rw [if_pos he2] at hq2
                    obtain ⟨rfl, rfl⟩ : [] = y ∧ ez2 = e := by simpa using hq2
                    clear hq hq2
                    go_wp2_with fail
                    refine HER8.out.mono ?_; rintro en w9 ⟨rfl, rfl⟩
                    go_wp2_with fail
                    refine HER8.out.mono ?_; rintro en w10 ⟨rfl, rfl⟩
                    go_wp2_with fail
                    go_ret2
                    exact dl_appNil HB8.out rfl
                  · have hq := H4.out
                    rw [if_neg he2, if_neg (fun h => hez h.2)] at hq
                    cases hq
              · rw [if_neg hp] at H
                obtain ⟨rfl, rfl⟩ : xs = xs1 ∧ (0 : Int) = e2 := by simpa using H
                have hpl : ¬ 0 < (d.length : Int) - p := by omega
                clear H
                go_wp2_with fail
                refine HLF.out.mono ?_; rintro en w5 ⟨rfl, m5, rfl⟩
                have hq := HQ.out
                rw [if_neg (by simp)] at hq
                obtain ⟨out, hmix, hq⟩ := Option.bind_eq_some_iff.1 hq
                obtain ⟨M, hmix2, hq⟩ := Option.bind_eq_some_iff.1 hq
                by_cases hg : wire_bytes M = true ∧ M.length ≤ 4000 ∧ out.length ≤ 4000
                · rw [if_pos hg] at hq
                  obtain ⟨q, hql, hq⟩ := Option.bind_eq_some_iff.1 hq
                  obtain rfl : N = xs.length := by omega
                  obtain ⟨w5, hw5⟩ : ∃ w5, wr.drewN m5 = w5 := ⟨_, rfl⟩
                  have HX5 := Lib.hid (show XB (wr.drewN m5) gx xs from HX.out)
                  have HB5 := Lib.hid (pw_below_drewN HB.out m5)
                  rw [hw5] at HX5 HB5 ⊢
                  have HMIX := Lib.hid hmix
                  have HMIX2 := Lib.hid hmix2
                  have HG := Lib.hid hg
                  have HEQ := Lib.hid hql
                  have HQ2 := Lib.hid hq
                  clear hw5 hmix hmix2 hg hql hq HLF HI HX HB HQ
                  go_wp2_with fail
                  refine (delta_mix.calls k A0 c0 a (some ⟨gx, 0, none⟩) xs.length xs out w5 (Kd.C_below HR0.out HB5.out) hc0 (HX5.out.C (by omega)) (Nat.le_refl _) HMIX.out).mono ?_; rintro en w6 ⟨v6, rfl, R6, b6⟩
                  obtain ⟨A6, c6, rfl, l6, C6⟩ := wire_form R6
                  have HB6 := Lib.hid (below_then HB5.out HB5.out.size b6)
                  have HC6 := Lib.hid C6
                  clear R6 C6 b6 HX5 HB5 HMIX
                  go_wp2_with fail
                  refine (diff_calls k A0 c0 a A6 c6 out M _ w6 (Kd.C_below HR0.out HB6.out) hc0 HC6.out l6 HMIX2.out (fun x hx => PLz.lz_bytes_all HG.out.1 x hx) HG.out.2.1 HG.out.2.2 rfl).mono ?_; rintro en w7 ⟨A7, c7, rfl, l7, C7, b7⟩
                  have HB7 := Lib.hid (below_then HB6.out HB6.out.size b7)
                  have HC7 := Lib.hid C7
                  have HC67 := Lib.hid (Kd.C_below HC6.out b7)
                  obtain ⟨DD, hDD⟩ : ∃ DD, dl_diff M out.length = DD := ⟨_, rfl⟩
                  rw [hDD] at HC7 HEQ l7 ⊢
                  have HEC := Lib.hid (slices_Equal_byte_byte.calls k A7 c7 DD A1 c1 d q w7 HC7.out l7 (Kd.C_below HR1.out HB7.out) hc1 HEQ.out)
                  clear b7 C7 HC7 HC6 HB6 HMIX2 HG HEQ hDD
                  go_wp2_with fail
                  refine HEC.out.mono ?_; rintro en w8 ⟨rfl, hd8⟩
                  have HB8 := Lib.hid (below_then HB7.out HB7.out.size hd8.below)
                  have HC8 := Lib.hid (Kd.C_below HC67.out hd8.below)
                  clear hd8 HEC HC67 HB7
                  cases q with
                  | true =>
                    obtain ⟨rfl, rfl⟩ : out = y ∧ (0 : Int) = e := by simpa using HQ2.out
                    clear HQ2
                    go_wp2_with fail
                    go_ret2
                    exact ⟨A6, c6, rfl, l6, HC8.out, HB8.out⟩
                  | false =>
                    obtain ⟨rfl, rfl⟩ : [] = y ∧ (4 : Int) = e := by simpa using HQ2.out
                    clear HQ2
                    go_wp2_with fail
                    go_ret2
                    exact dl_appNil HB8.out rfl
                · rw [if_neg hg] at hq; cases hq
            · rw [if_neg hG] at H; cases H
  · have hq := H.out
    rw [if_pos he1] at hq
    obtain ⟨rfl, rfl⟩ : [] = y ∧ e1 = e := by simpa using hq
    go_wp2_with fail
    refine HER.out.mono ?_; rintro en w3 ⟨rfl, rfl⟩
    go_wp2_with fail
    refine HER.out.mono ?_; rintro en w4 ⟨rfl, rfl⟩
    go_wp2_with fail
    go_ret2
    exact dl_appNil HB2.out rfl
end Go.Proofs.Ytocadookdkmahaa.PDl
