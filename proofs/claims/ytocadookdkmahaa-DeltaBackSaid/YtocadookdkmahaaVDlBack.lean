/- The law DeltaBack: its walk. -/
import Derived.Test.YtocadookdkmahaaG8
namespace Go.Proofs.Ytocadookdkmahaa.PDl
open Go.RowKit Go.Proofs.YtocadookdkmahaaW.PrintWords Go.Proofs.YtocadookdkmahaaW.PrintLast Go.Proofs.YtocadookdkmahaaW.PrintMore
open Go.Proofs.Ytocadookdkmahaa.PLz (IsB wp_region_inv upb depsOk)
open Go.Proofs.Ytocadookdkmahaa.PDeltaDiffs (delta_mix.f)
attribute [local go_sem] max2_int min2_int max_two min_two max_three min_three max_four min_four   -- for this text's walks alone
set_option linter.unusedVariables false
set_option linter.unusedSimpArgs false
set_option maxHeartbeats 4000000
set_option maxRecDepth 20000
theorem back_big (A0 : Option Addr) (n0 c0 : Nat) (A1 : Option Addr) (n1 c1 : Nat) (A2 : Option Addr) (n2 c2 : Nat) (w : World) (h : 3000 < n0 ∨ 3000 < n1 ∨ 3000 < n2) :
    Calls Try.prog 4 #[.slice A0 n0 c0, .slice A1 n1 c1, .slice A2 n2 c2] w fun e w' => e = .returned (.bool true) ∧ Below w.heap.size w w' := by
  have hw := Lib.hid (fun W => wakes_calls W)
  by_cases hb : 3000 < n0
  · have hl' : (3000 : Int) < n0 := by omega
    go_enter Try.func4, Try.ntmps4
    go_wp2_with fail
    refine (hw.out _).mono ?_; rintro e w1 ⟨rfl, b⟩
    go_wp2_with fail
    go_ret
    exact ⟨rfl, b⟩
  · have hl' : ¬ (3000 : Int) < n0 := by omega
    by_cases hb2 : 3000 < n1
    · have hl2 : (3000 : Int) < n1 := by omega
      go_enter Try.func4, Try.ntmps4
      go_wp2_with fail
      refine (hw.out _).mono ?_; rintro e w1 ⟨rfl, b⟩
      go_wp2_with fail
      go_ret
      exact ⟨rfl, b⟩
    · have hl2 : ¬ (3000 : Int) < n1 := by omega
      have hl3 : (3000 : Int) < n2 := by omega
      go_enter Try.func4, Try.ntmps4
      go_wp2_with fail
      refine (hw.out _).mono ?_; rintro e w1 ⟨rfl, b⟩
      go_wp2_with fail
      go_ret
      exact ⟨rfl, b⟩
theorem back_walk (k : Nat) (A0 : Option Addr) (c0 : Nat) (a : List Int) (A1 : Option Addr) (c1 : Nat) (b_ : List Int) (A2 : Option Addr) (c2 : Nat) (d : List Int) (M X Z y : List Int) (ey : Int) (w : World)
    (hr0 : Kd.C (Kd.int .u8) w A0 a.length a) (hc0 : a.length ≤ c0) (hr1 : Kd.C (Kd.int .u8) w A1 b_.length b_) (hc1 : b_.length ≤ c1) (hr2 : Kd.C (Kd.int .u8) w A2 d.length d) (hc2 : d.length ≤ c2)
    (ha : a.length ≤ 3000) (hb : b_.length ≤ 3000) (hd : d.length ≤ 3000) (hM : delta_mix.f k a b_ = some M) (hMB : IsB M) (hMl : M.length ≤ 4000) (hX : dl_diff M b_.length = X) (hXl : X.length ≤ b_.length + 6)
    (hap : dl_apply k a X (b_.length : Int) = some (b_, 0)) (hZ : delta_mix.f k b_ b_ = some Z) (hZB : IsB Z) (hZl : Z.length ≤ 4000) (hZ3 : (dl_diff Z b_.length).length ≤ 3)
    (hy : dl_apply k a d 3000 = some (y, ey)) (hy0 : ey ≠ 0 → y = []) (hy1 : ey = 0 → y.length ≤ 4000 ∧ ∃ N, delta_mix.f k a y = some N ∧ IsB N ∧ N.length ≤ 4000 ∧ dl_diff N y.length = d) :
    Calls Try.prog 4 #[.slice A0 a.length c0, .slice A1 b_.length c1, .slice A2 d.length c2] w fun e w' => e = .returned (.bool true) ∧ Below w.heap.size w w' := by
  have hwk := Lib.hid (fun W => wakes_calls W)
  obtain ⟨sb, hsb⟩ : ∃ o, o = strOfNums b_ := ⟨_, rfl⟩
  obtain ⟨sd, hsd⟩ : ∃ o, o = strOfNums d := ⟨_, rfl⟩
  obtain ⟨X2, hX2⟩ : ∃ o, dl_diff Z b_.length = o := ⟨_, rfl⟩
  rw [hX2] at hZ3
  have hl1 : ¬ (3000 : Int) < a.length := by omega
  have hl2 : ¬ (3000 : Int) < b_.length := by omega
  have hl3 : ¬ (3000 : Int) < d.length := by omega
  have hbl : b_.length ≤ 4000 := by omega
  have hXd : X.length ≤ 100000 := by omega
  have hdd : d.length ≤ 100000 := by omega
  have hX3 : ¬ (3 : Int) < X2.length := by omega
  obtain ⟨D, hD⟩ : ∃ D : Int, D = (b_.length : Int) / 5 := ⟨_, rfl⟩
  have e1 : (b_.length : Int).tdiv 5 = D := by rw [hD]; exact Int.tdiv_eq_ediv_of_nonneg (by omega)
  have e2 : IntKind.i64.wrap D = D := IntWalk.i64_in _ (by omega)
  have e3 : IntKind.i64.wrap (2 * D) = 2 * D := IntWalk.i64_in _ (by omega)
  have e4 : IntKind.i64.wrap ((b_.length : Int) + 2 * D) = (b_.length : Int) + 2 * D := IntWalk.i64_in _ (by omega)
  have e5 : IntKind.i64.wrap ((b_.length : Int) + 2 * D + 12) = (b_.length : Int) + 2 * D + 12 := IntWalk.i64_in _ (by omega)
  have e6 : ¬ ((b_.length : Int) + 2 * D + 12 < X.length) := by omega
  have HC0 := Lib.hid hr0
  have HC1 := Lib.hid hr1
  have HC2 := Lib.hid hr2
  have HM := Lib.hid hM
  have HX := Lib.hid hX
  have HX2 := Lib.hid hX2
  have HZ := Lib.hid hZ
  have HAP := Lib.hid hap
  have HY := Lib.hid hy
  have HY0 := Lib.hid hy0
  have HY1 := Lib.hid hy1
  have Hsb := Lib.hid hsb
  have Hsd := Lib.hid hsd
  clear hr0 hr1 hr2 hM hX hX2 hZ hap hy hy0 hy1 hsb hsd ha hb hd hD hXl
  go_enter Try.func4, Try.ntmps4
  go_wp2_with fail
  refine (diff_calls k A0 c0 a A1 c1 b_ M X _ HC0.out hc0 HC1.out hc1 HM.out hMB hMl hbl HX.out).mono ?_; rintro e w1 ⟨AX, cX, rfl, qX, CX, b1⟩
  have HB1 := Lib.hid b1
  replace HC0 := Lib.hid (Kd.C_below HC0.out b1)
  replace HC1 := Lib.hid (Kd.C_below HC1.out b1)
  replace HC2 := Lib.hid (Kd.C_below HC2.out b1)
  replace CX := Lib.hid CX
  clear b1
  go_wp2_with fail
  refine (apply_calls k A0 c0 a AX cX X _ b_ 0 _ HC0.out hc0 CX.out qX hXd HAP.out).mono ?_; rintro e w2 ⟨Ac, cc, rfl, qc, Cc, b2⟩
  have HB2 := Lib.hid (below_then HB1.out HB1.out.size b2)
  replace HC0 := Lib.hid (Kd.C_below HC0.out b2)
  replace HC1 := Lib.hid (Kd.C_below HC1.out b2)
  replace HC2 := Lib.hid (Kd.C_below HC2.out b2)
  clear b2 HB1 CX
  have kc := Kd.C_string (P := Try.prog) (src := 22) (dst := 9) (c := cc) Try.underlying22 (by kernel_rfl) Try.underlying9 Cc
  have kb := Kd.C_string (P := Try.prog) (src := 22) (dst := 9) (c := c1) Try.underlying22 (by kernel_rfl) Try.underlying9 HC1.out
  rw [← Hsb.out] at kc kb
  replace Cc := Lib.hid Cc
  go_wp2_with fail
  clear kc kb
  refine (diff_calls k A1 c1 b_ A1 c1 b_ Z X2 _ HC1.out hc1 HC1.out hc1 HZ.out hZB hZl hbl HX2.out).mono ?_; rintro e w3 ⟨AZ, cZ, rfl, qZ, CZ, b3⟩
  have HB3 := Lib.hid (below_then HB2.out HB2.out.size b3)
  replace HC0 := Lib.hid (Kd.C_below HC0.out b3)
  replace HC2 := Lib.hid (Kd.C_below HC2.out b3)
  clear b3 HB2 CZ
  go_wp2_with fail
  refine (apply_calls k A0 c0 a A2 c2 d 3000 y ey _ HC0.out hc0 HC2.out hc2 hdd HY.out).mono ?_; rintro e w4 ⟨Ay, cy, rfl, qy, Cy, b4⟩
  have HB4 := Lib.hid (below_then HB3.out HB3.out.size b4)
  replace HC0 := Lib.hid (Kd.C_below HC0.out b4)
  replace HC2 := Lib.hid (Kd.C_below HC2.out b4)
  have HCy := Lib.hid Cy
  clear b4 HB3 Cy
  by_cases he : ey = 0
  · obtain ⟨hyl, N, hN, hNB, hNl, hDD⟩ := HY1.out he
    have HN := Lib.hid hN
    have HD := Lib.hid hDD
    subst he
    clear hN hDD e1 e2 e3 e4 e5 e6 HY HY0 HY1 HAP
    go_wp2_with fail
    refine wp_region_inv (fun a0 w_0 b a' w' => ∃ x80 x81 x82 x83 x84 x85 x86 x87 x88 x89 x6 : Value, a' = (((((((((((a0.put (some 80) x80).put (some 81) x81).put (some 82) x82).put (some 83) x83).put (some 84) x84).put (some 85) x85).put (some 86) x86).put (some 87) x87).put (some 88) x88).put (some 89) x89).put (some 6) x6) ∧ Below w4.heap.size w4 w' ∧ (b 2 = true → ∃ A3 c3, x82 = .slice A3 d.length c3 ∧ Kd.C (Kd.int .u8) w' A3 d.length d) ∧ (b 0 = true → x80 = .slice A0 a.length c0) ∧ (b 1 = true → x81 = .slice Ay y.length cy) ∧ (b 3 = true → x83 = .string sd) ∧ (b 4 = true → x84 = .slice A2 d.length c2) ∧ (b 5 = true → x85 = .string sd) ∧ (b 6 = true → x86 = .bool true) ∧ (b 7 = true → x87 = .bool true) ∧ (b 8 = true → x88 = .bool true) ∧ (b 9 = true → x89 = .bool true) ∧ (b 10 = true → x6 = .bool true)) (by kernel_rfl) (by kernel_rfl) ?start ⟨?op0, ?op1, ?op2, ?op3, ?op4, ?op5, ?op6, ?op7, ?op8, ?op9, ?op10, trivial⟩ ?done
    case start => exact ⟨_, _, _, _, _, _, _, _, _, _, _, by simp only [Act.put, List.setIfInBounds_toArray, List.set_cons_zero, List.set_cons_succ]; rfl, below_drew1 (Below.refl _ _), fun h => absurd h (by decide), fun h => absurd h (by decide), fun h => absurd h (by decide), fun h => absurd h (by decide), fun h => absurd h (by decide), fun h => absurd h (by decide), fun h => absurd h (by decide), fun h => absurd h (by decide), fun h => absurd h (by decide), fun h => absurd h (by decide), fun h => absurd h (by decide)⟩
    case op0 =>
      rintro bb _ w' ⟨x80, x81, x82, x83, x84, x85, x86, x87, x88, x89, x6, rfl, HB, R1, p80, p81, p83, p84, p85, p86, p87, p88, p89, p6⟩ hb hd K hK
      simp only [Act.put, List.setIfInBounds_toArray, List.set_cons_zero, List.set_cons_succ]
      rw [if_pos (by rfl)]
      go_simp
      exact hK _ _ ⟨.slice A0 a.length c0, x81, x82, x83, x84, x85, x86, x87, x88, x89, x6, by simp only [Act.put, List.setIfInBounds_toArray, List.set_cons_zero, List.set_cons_succ], HB, fun h => R1 (by simpa [upb] using h), fun _ => rfl, fun h => p81 (by simpa [upb] using h), fun h => p83 (by simpa [upb] using h), fun h => p84 (by simpa [upb] using h), fun h => p85 (by simpa [upb] using h), fun h => p86 (by simpa [upb] using h), fun h => p87 (by simpa [upb] using h), fun h => p88 (by simpa [upb] using h), fun h => p89 (by simpa [upb] using h), fun h => p6 (by simpa [upb] using h)⟩
    case op1 =>
      rintro bb _ w' ⟨x80, x81, x82, x83, x84, x85, x86, x87, x88, x89, x6, rfl, HB, R1, p80, p81, p83, p84, p85, p86, p87, p88, p89, p6⟩ hb hd K hK
      simp only [Act.put, List.setIfInBounds_toArray, List.set_cons_zero, List.set_cons_succ]
      rw [if_pos (by rfl)]
      go_simp
      exact hK _ _ ⟨x80, .slice Ay y.length cy, x82, x83, x84, x85, x86, x87, x88, x89, x6, by simp only [Act.put, List.setIfInBounds_toArray, List.set_cons_zero, List.set_cons_succ], HB, fun h => R1 (by simpa [upb] using h), fun h => p80 (by simpa [upb] using h), fun _ => rfl, fun h => p83 (by simpa [upb] using h), fun h => p84 (by simpa [upb] using h), fun h => p85 (by simpa [upb] using h), fun h => p86 (by simpa [upb] using h), fun h => p87 (by simpa [upb] using h), fun h => p88 (by simpa [upb] using h), fun h => p89 (by simpa [upb] using h), fun h => p6 (by simpa [upb] using h)⟩
    case op2 =>
      rintro bb _ w' ⟨x80, x81, x82, x83, x84, x85, x86, x87, x88, x89, x6, rfl, HB, R1, p80, p81, p83, p84, p85, p86, p87, p88, p89, p6⟩ hb hd K hK
      simp only [Act.put, List.setIfInBounds_toArray, List.set_cons_zero, List.set_cons_succ]
      obtain rfl := (p80 (hd 0 (by decide))).symm
      obtain rfl := (p81 (hd 1 (by decide))).symm
      rw [if_pos (by rfl)]
      have hc := diff_calls k A0 c0 a Ay cy y N d w' (Kd.C_below HC0.out HB) hc0 (Kd.C_below HCy.out HB) qy HN.out hNB hNl hyl HD.out
      go_simp
      refine hc.mono ?_; rintro e w3 ⟨A3, c3, rfl, q3, C3, b3⟩
      have HB2 := below_then HB HB.size b3
      try dsimp only
      exact hK _ _ ⟨.slice A0 a.length c0, .slice Ay y.length cy, .slice A3 d.length c3, x83, x84, x85, x86, x87, x88, x89, x6, by simp only [Act.put, List.setIfInBounds_toArray, List.set_cons_zero, List.set_cons_succ], HB2, fun _ => ⟨_, _, rfl, C3⟩, fun _ => rfl, fun _ => rfl, fun h => p83 (by simpa [upb] using h), fun h => p84 (by simpa [upb] using h), fun h => p85 (by simpa [upb] using h), fun h => p86 (by simpa [upb] using h), fun h => p87 (by simpa [upb] using h), fun h => p88 (by simpa [upb] using h), fun h => p89 (by simpa [upb] using h), fun h => p6 (by simpa [upb] using h)⟩
    case op3 =>
      rintro bb _ w' ⟨x80, x81, x82, x83, x84, x85, x86, x87, x88, x89, x6, rfl, HB, R1, p80, p81, p83, p84, p85, p86, p87, p88, p89, p6⟩ hb hd K hK
      simp only [Act.put, List.setIfInBounds_toArray, List.set_cons_zero, List.set_cons_succ]
      rw [if_pos (by rfl)]
      obtain ⟨A3, c3, e3, C3⟩ := R1 (hd 2 (by decide))
      subst e3
      have k3 := Kd.C_string (P := Try.prog) (src := 22) (dst := 9) (c := c3) Try.underlying22 (by kernel_rfl) Try.underlying9 C3
      rw [← Hsd.out] at k3
      go_simp
      exact hK _ _ ⟨x80, x81, .slice A3 d.length c3, .string sd, x84, x85, x86, x87, x88, x89, x6, by simp only [Act.put, List.setIfInBounds_toArray, List.set_cons_zero, List.set_cons_succ], HB, fun h => ⟨A3, c3, rfl, C3⟩, fun h => p80 (by simpa [upb] using h), fun h => p81 (by simpa [upb] using h), fun _ => rfl, fun h => p84 (by simpa [upb] using h), fun h => p85 (by simpa [upb] using h), fun h => p86 (by simpa [upb] using h), fun h => p87 (by simpa [upb] using h), fun h => p88 (by simpa [upb] using h), fun h => p89 (by simpa [upb] using h), fun h => p6 (by simpa [upb] using h)⟩
    case op4 =>
      rintro bb _ w' ⟨x80, x81, x82, x83, x84, x85, x86, x87, x88, x89, x6, rfl, HB, R1, p80, p81, p83, p84, p85, p86, p87, p88, p89, p6⟩ hb hd K hK
      simp only [Act.put, List.setIfInBounds_toArray, List.set_cons_zero, List.set_cons_succ]
      rw [if_pos (by rfl)]
      go_simp
      exact hK _ _ ⟨x80, x81, x82, x83, .slice A2 d.length c2, x85, x86, x87, x88, x89, x6, by simp only [Act.put, List.setIfInBounds_toArray, List.set_cons_zero, List.set_cons_succ], HB, fun h => R1 (by simpa [upb] using h), fun h => p80 (by simpa [upb] using h), fun h => p81 (by simpa [upb] using h), fun h => p83 (by simpa [upb] using h), fun _ => rfl, fun h => p85 (by simpa [upb] using h), fun h => p86 (by simpa [upb] using h), fun h => p87 (by simpa [upb] using h), fun h => p88 (by simpa [upb] using h), fun h => p89 (by simpa [upb] using h), fun h => p6 (by simpa [upb] using h)⟩
    case op5 =>
      rintro bb _ w' ⟨x80, x81, x82, x83, x84, x85, x86, x87, x88, x89, x6, rfl, HB, R1, p80, p81, p83, p84, p85, p86, p87, p88, p89, p6⟩ hb hd K hK
      simp only [Act.put, List.setIfInBounds_toArray, List.set_cons_zero, List.set_cons_succ]
      obtain rfl := (p84 (hd 4 (by decide))).symm
      rw [if_pos (by rfl)]
      have k0 := Kd.C_string (P := Try.prog) (src := 22) (dst := 9) (c := c2) Try.underlying22 (by kernel_rfl) Try.underlying9 (Kd.C_below HC2.out HB)
      rw [← Hsd.out] at k0
      go_simp
      exact hK _ _ ⟨x80, x81, x82, x83, .slice A2 d.length c2, .string sd, x86, x87, x88, x89, x6, by simp only [Act.put, List.setIfInBounds_toArray, List.set_cons_zero, List.set_cons_succ], HB, fun h => R1 (by simpa [upb] using h), fun h => p80 (by simpa [upb] using h), fun h => p81 (by simpa [upb] using h), fun h => p83 (by simpa [upb] using h), fun _ => rfl, fun _ => rfl, fun h => p86 (by simpa [upb] using h), fun h => p87 (by simpa [upb] using h), fun h => p88 (by simpa [upb] using h), fun h => p89 (by simpa [upb] using h), fun h => p6 (by simpa [upb] using h)⟩
    case op6 =>
      rintro bb _ w' ⟨x80, x81, x82, x83, x84, x85, x86, x87, x88, x89, x6, rfl, HB, R1, p80, p81, p83, p84, p85, p86, p87, p88, p89, p6⟩ hb hd K hK
      simp only [Act.put, List.setIfInBounds_toArray, List.set_cons_zero, List.set_cons_succ]
      obtain rfl := (p83 (hd 3 (by decide))).symm
      obtain rfl := (p85 (hd 5 (by decide))).symm
      rw [if_pos (by rfl)]
      go_simp
      exact hK _ _ ⟨x80, x81, x82, .string sd, x84, .string sd, .bool true, x87, x88, x89, x6, by simp only [Act.put, List.setIfInBounds_toArray, List.set_cons_zero, List.set_cons_succ], HB, fun h => R1 (by simpa [upb] using h), fun h => p80 (by simpa [upb] using h), fun h => p81 (by simpa [upb] using h), fun _ => rfl, fun h => p84 (by simpa [upb] using h), fun _ => rfl, fun _ => rfl, fun h => p87 (by simpa [upb] using h), fun h => p88 (by simpa [upb] using h), fun h => p89 (by simpa [upb] using h), fun h => p6 (by simpa [upb] using h)⟩
    case op7 =>
      rintro bb _ w' ⟨x80, x81, x82, x83, x84, x85, x86, x87, x88, x89, x6, rfl, HB, R1, p80, p81, p83, p84, p85, p86, p87, p88, p89, p6⟩ hb hd K hK
      simp only [Act.put, List.setIfInBounds_toArray, List.set_cons_zero, List.set_cons_succ]
      obtain rfl := (p86 (hd 6 (by decide))).symm
      rw [if_pos (by rfl)]
      go_simp
      exact hK _ _ ⟨x80, x81, x82, x83, x84, x85, .bool true, .bool true, x88, x89, x6, by simp only [Act.put, List.setIfInBounds_toArray, List.set_cons_zero, List.set_cons_succ], HB, fun h => R1 (by simpa [upb] using h), fun h => p80 (by simpa [upb] using h), fun h => p81 (by simpa [upb] using h), fun h => p83 (by simpa [upb] using h), fun h => p84 (by simpa [upb] using h), fun h => p85 (by simpa [upb] using h), fun _ => rfl, fun _ => rfl, fun h => p88 (by simpa [upb] using h), fun h => p89 (by simpa [upb] using h), fun h => p6 (by simpa [upb] using h)⟩
    case op8 =>
      rintro bb _ w' ⟨x80, x81, x82, x83, x84, x85, x86, x87, x88, x89, x6, rfl, HB, R1, p80, p81, p83, p84, p85, p86, p87, p88, p89, p6⟩ hb hd K hK
      simp only [Act.put, List.setIfInBounds_toArray, List.set_cons_zero, List.set_cons_succ]
      obtain rfl := (p87 (hd 7 (by decide))).symm
      rw [if_pos (by rfl)]
      have hc := hwk.out w'
      go_simp
      refine hc.mono ?_; rintro e w3 ⟨rfl, b3⟩
      have HB2 := below_then HB HB.size b3
      try dsimp only
      exact hK _ _ ⟨x80, x81, x82, x83, x84, x85, x86, .bool true, .bool true, x89, x6, by simp only [Act.put, List.setIfInBounds_toArray, List.set_cons_zero, List.set_cons_succ], HB2, fun h => by obtain ⟨A3, c3, e3, C3⟩ := R1 (by simpa [upb] using h); exact ⟨A3, c3, e3, Kd.C_below C3 b3⟩, fun h => p80 (by simpa [upb] using h), fun h => p81 (by simpa [upb] using h), fun h => p83 (by simpa [upb] using h), fun h => p84 (by simpa [upb] using h), fun h => p85 (by simpa [upb] using h), fun h => p86 (by simpa [upb] using h), fun _ => rfl, fun _ => rfl, fun h => p89 (by simpa [upb] using h), fun h => p6 (by simpa [upb] using h)⟩
    case op9 =>
      rintro bb _ w' ⟨x80, x81, x82, x83, x84, x85, x86, x87, x88, x89, x6, rfl, HB, R1, p80, p81, p83, p84, p85, p86, p87, p88, p89, p6⟩ hb hd K hK
      simp only [Act.put, List.setIfInBounds_toArray, List.set_cons_zero, List.set_cons_succ]
      obtain rfl := (p87 (hd 7 (by decide))).symm
      obtain rfl := (p88 (hd 8 (by decide))).symm
      rw [if_pos (by rfl)]
      go_simp
      exact hK _ _ ⟨x80, x81, x82, x83, x84, x85, x86, .bool true, .bool true, .bool true, x6, by simp only [Act.put, List.setIfInBounds_toArray, List.set_cons_zero, List.set_cons_succ], HB, fun h => R1 (by simpa [upb] using h), fun h => p80 (by simpa [upb] using h), fun h => p81 (by simpa [upb] using h), fun h => p83 (by simpa [upb] using h), fun h => p84 (by simpa [upb] using h), fun h => p85 (by simpa [upb] using h), fun h => p86 (by simpa [upb] using h), fun _ => rfl, fun _ => rfl, fun _ => rfl, fun h => p6 (by simpa [upb] using h)⟩
    case op10 =>
      rintro bb _ w' ⟨x80, x81, x82, x83, x84, x85, x86, x87, x88, x89, x6, rfl, HB, R1, p80, p81, p83, p84, p85, p86, p87, p88, p89, p6⟩ hb hd K hK
      simp only [Act.put, List.setIfInBounds_toArray, List.set_cons_zero, List.set_cons_succ]
      obtain rfl := (p89 (hd 9 (by decide))).symm
      rw [if_pos (by rfl)]
      go_simp
      exact hK _ _ ⟨x80, x81, x82, x83, x84, x85, x86, x87, x88, .bool true, .bool true, by simp only [Act.put, List.setIfInBounds_toArray, List.set_cons_zero, List.set_cons_succ], HB, fun h => R1 (by simpa [upb] using h), fun h => p80 (by simpa [upb] using h), fun h => p81 (by simpa [upb] using h), fun h => p83 (by simpa [upb] using h), fun h => p84 (by simpa [upb] using h), fun h => p85 (by simpa [upb] using h), fun h => p86 (by simpa [upb] using h), fun h => p87 (by simpa [upb] using h), fun h => p88 (by simpa [upb] using h), fun _ => rfl, fun _ => rfl⟩
    case done =>
      rintro bb _ w' hb ⟨x80, x81, x82, x83, x84, x85, x86, x87, x88, x89, x6, rfl, HB, R1, p80, p81, p83, p84, p85, p86, p87, p88, p89, p6⟩
      obtain rfl := (p80 (hb 0 (by decide))).symm
      obtain rfl := (p81 (hb 1 (by decide))).symm
      obtain rfl := (p83 (hb 3 (by decide))).symm
      obtain rfl := (p84 (hb 4 (by decide))).symm
      obtain rfl := (p85 (hb 5 (by decide))).symm
      obtain rfl := (p86 (hb 6 (by decide))).symm
      obtain rfl := (p87 (hb 7 (by decide))).symm
      obtain rfl := (p88 (hb 8 (by decide))).symm
      obtain rfl := (p89 (hb 9 (by decide))).symm
      obtain rfl := (p6 (hb 10 (by decide))).symm
      simp only [Act.put, List.setIfInBounds_toArray, List.set_cons_zero, List.set_cons_succ]
      clear hb p80 p81 p83 p84 p85 p86 p87 p88 p89 p6
      go_wp2_with fail
      go_ret
      exact ⟨rfl, below_then HB4.out HB4.out.size HB⟩
  · have hyn : y = [] := HY0.out he
    subst hyn
    have he1 : (ey == (0 : Int)) = false := by simpa using he
    have he2 : (ey != (0 : Int)) = true := by simpa using he
    have he3 : (((([] : List Int).length : Nat) : Int) == (0 : Int)) = true := by simp
    clear e1 e2 e3 e4 e5 e6 HY HY0 HY1 HAP
    go_wp2_with fail
    refine (hwk.out _).mono ?_; rintro e w5 ⟨rfl, b5⟩
    have HB5 := Lib.hid (below_then HB4.out HB4.out.size b5)
    clear b5
    go_wp2_with fail
    go_ret
    exact ⟨rfl, HB5.out⟩
end Go.Proofs.Ytocadookdkmahaa.PDl
