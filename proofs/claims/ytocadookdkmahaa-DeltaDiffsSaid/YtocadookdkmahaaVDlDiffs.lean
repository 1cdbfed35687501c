/- The law DeltaDiffs: its walk. -/
import Derived.Test.YtocadookdkmahaaG8
import Derived.Test.YtocadookdkmahaaPDeltaDiffsx4
namespace Go.Proofs.Ytocadookdkmahaa.PDl
open Go.RowKit Go.Proofs.YtocadookdkmahaaW.PrintWords Go.Proofs.YtocadookdkmahaaW.PrintLast Go.Proofs.YtocadookdkmahaaW.PrintMore
open Go.Proofs.Ytocadookdkmahaa.PLz (IsB wp_region_inv upb depsOk)
open Go.Proofs.Ytocadookdkmahaa.PDeltaDiffs (delta_mix.f rematchref03_Diff.f rematchref03_Diff.calls)
attribute [local go_sem] max2_int min2_int max_two min_two max_three min_three max_four min_four   -- for this text's walks alone
set_option linter.unusedVariables false
set_option linter.unusedSimpArgs false
set_option maxHeartbeats 1000000
set_option maxRecDepth 20000
theorem diffs_big (A0 : Option Addr) (n0 c0 : Nat) (A1 : Option Addr) (n1 c1 : Nat) (w : World) (h : 400 < n0 ∨ 400 < n1) :
    Calls Try.prog 3 #[.slice A0 n0 c0, .slice A1 n1 c1] w fun e w' => e = .returned (.bool true) ∧ Below w.heap.size w w' := by
  have hw := Lib.hid (fun W => wakes_calls W)
  by_cases hb : 400 < n0
  · have hl' : (400 : Int) < n0 := by omega
    go_enter Try.func3, Try.ntmps3
    go_wp2_with fail
    refine (hw.out _).mono ?_; rintro e w1 ⟨rfl, b⟩
    go_wp2_with fail
    go_ret
    exact ⟨rfl, b⟩
  · have hl' : ¬ (400 : Int) < n0 := by omega
    have hl2 : (400 : Int) < n1 := by omega
    go_enter Try.func3, Try.ntmps3
    go_wp2_with fail
    refine (hw.out _).mono ?_; rintro e w1 ⟨rfl, b⟩
    go_wp2_with fail
    go_ret
    exact ⟨rfl, b⟩
theorem diffs_walk (k kr : Nat) (A0 : Option Addr) (c0 : Nat) (a : List Int) (A1 : Option Addr) (c1 : Nat) (b_ M : List Int) (w : World) (hr0 : Kd.C (Kd.int .u8) w A0 a.length a) (hc0 : a.length ≤ c0) (hr1 : Kd.C (Kd.int .u8) w A1 b_.length b_) (hc1 : b_.length ≤ c1)
    (ha : a.length ≤ 400) (hb : b_.length ≤ 400) (hM : delta_mix.f k a b_ = some M) (hMB : IsB M) (hMl : M.length ≤ 4000) (href : rematchref03_Diff.f kr (strOfNums a) (strOfNums b_) = some (strOfNums (dl_diff M b_.length))) :
    Calls Try.prog 3 #[.slice A0 a.length c0, .slice A1 b_.length c1] w fun e w' => e = .returned (.bool true) ∧ Below w.heap.size w w' := by
  have hwk := Lib.hid (fun W => wakes_calls W)
  obtain ⟨X, hX⟩ : ∃ X, dl_diff M b_.length = X := ⟨_, rfl⟩
  obtain ⟨sa, hsa⟩ : ∃ o, o = strOfNums a := ⟨_, rfl⟩
  obtain ⟨sb, hsb⟩ : ∃ o, o = strOfNums b_ := ⟨_, rfl⟩
  obtain ⟨ref, hrf⟩ : ∃ o, o = strOfNums X := ⟨_, rfl⟩
  rw [hX, ← hsa, ← hsb, ← hrf] at href
  have rc := Lib.hid (fun W => rematchref03_Diff.calls kr sa sb ref W href)
  have hl1 : ¬ (400 : Int) < a.length := by omega
  have hl2 : ¬ (400 : Int) < b_.length := by omega
  have hbl : b_.length ≤ 4000 := by omega
  have HC0 := Lib.hid hr0
  have HC1 := Lib.hid hr1
  have HM := Lib.hid hM
  have HX := Lib.hid hX
  have Hsa := Lib.hid hsa
  have Hsb := Lib.hid hsb
  have Href := Lib.hid hrf
  clear hr0 hr1 hM hX hsa hsb hrf href ha hb
  go_enter Try.func3, Try.ntmps3
  go_wp2_with fail
  refine wp_region_inv (fun a0 w_0 b a' w' => ∃ x14 x15 x16 x17 x18 x19 x20 x21 x22 x23 x24 x25 x26 x4 : Value, a' = ((((((((((((((a0.put (some 14) x14).put (some 15) x15).put (some 16) x16).put (some 17) x17).put (some 18) x18).put (some 19) x19).put (some 20) x20).put (some 21) x21).put (some 22) x22).put (some 23) x23).put (some 24) x24).put (some 25) x25).put (some 26) x26).put (some 4) x4) ∧ Below w.heap.size w w' ∧ (b 2 = true → ∃ A3 c3, x16 = .slice A3 X.length c3 ∧ Kd.C (Kd.int .u8) w' A3 X.length X) ∧ (b 0 = true → x14 = .slice A0 a.length c0) ∧ (b 1 = true → x15 = .slice A1 b_.length c1) ∧ (b 3 = true → x17 = .string ref) ∧ (b 4 = true → x18 = .slice A0 a.length c0) ∧ (b 5 = true → x19 = .string sa) ∧ (b 6 = true → x20 = .slice A1 b_.length c1) ∧ (b 7 = true → x21 = .string sb) ∧ (b 8 = true → x22 = .string ref) ∧ (b 9 = true → x23 = .bool true) ∧ (b 10 = true → x24 = .bool true) ∧ (b 11 = true → x25 = .bool true) ∧ (b 12 = true → x26 = .bool true) ∧ (b 13 = true → x4 = .bool true)) (by kernel_rfl) (by kernel_rfl) ?start ⟨?op0, ?op1, ?op2, ?op3, ?op4, ?op5, ?op6, ?op7, ?op8, ?op9, ?op10, ?op11, ?op12, ?op13, trivial⟩ ?done
  case start => exact ⟨_, _, _, _, _, _, _, _, _, _, _, _, _, _, by simp only [Act.put, List.setIfInBounds_toArray, List.set_cons_zero, List.set_cons_succ]; rfl, below_drew1 (Below.refl _ _), fun h => absurd h (by decide), fun h => absurd h (by decide), fun h => absurd h (by decide), fun h => absurd h (by decide), fun h => absurd h (by decide), fun h => absurd h (by decide), fun h => absurd h (by decide), fun h => absurd h (by decide), fun h => absurd h (by decide), fun h => absurd h (by decide), fun h => absurd h (by decide), fun h => absurd h (by decide), fun h => absurd h (by decide), fun h => absurd h (by decide)⟩
  case op0 =>
    rintro bb _ w' ⟨x14, x15, x16, x17, x18, x19, x20, x21, x22, x23, x24, x25, x26, x4, rfl, HB, R1, p14, p15, p17, p18, p19, p20, p21, p22, p23, p24, p25, p26, p4⟩ hb hd K hK
    simp only [Act.put, List.setIfInBounds_toArray, List.set_cons_zero, List.set_cons_succ]
    rw [if_pos (by rfl)]
    go_simp
    exact hK _ _ ⟨.slice A0 a.length c0, x15, x16, x17, x18, x19, x20, x21, x22, x23, x24, x25, x26, x4, by simp only [Act.put, List.setIfInBounds_toArray, List.set_cons_zero, List.set_cons_succ], HB, fun h => R1 (by simpa [upb] using h), fun _ => rfl, fun h => p15 (by simpa [upb] using h), fun h => p17 (by simpa [upb] using h), fun h => p18 (by simpa [upb] using h), fun h => p19 (by simpa [upb] using h), fun h => p20 (by simpa [upb] using h), fun h => p21 (by simpa [upb] using h), fun h => p22 (by simpa [upb] using h), fun h => p23 (by simpa [upb] using h), fun h => p24 (by simpa [upb] using h), fun h => p25 (by simpa [upb] using h), fun h => p26 (by simpa [upb] using h), fun h => p4 (by simpa [upb] using h)⟩
  case op1 =>
    rintro bb _ w' ⟨x14, x15, x16, x17, x18, x19, x20, x21, x22, x23, x24, x25, x26, x4, rfl, HB, R1, p14, p15, p17, p18, p19, p20, p21, p22, p23, p24, p25, p26, p4⟩ hb hd K hK
    simp only [Act.put, List.setIfInBounds_toArray, List.set_cons_zero, List.set_cons_succ]
    rw [if_pos (by rfl)]
    go_simp
    exact hK _ _ ⟨x14, .slice A1 b_.length c1, x16, x17, x18, x19, x20, x21, x22, x23, x24, x25, x26, x4, by simp only [Act.put, List.setIfInBounds_toArray, List.set_cons_zero, List.set_cons_succ], HB, fun h => R1 (by simpa [upb] using h), fun h => p14 (by simpa [upb] using h), fun _ => rfl, fun h => p17 (by simpa [upb] using h), fun h => p18 (by simpa [upb] using h), fun h => p19 (by simpa [upb] using h), fun h => p20 (by simpa [upb] using h), fun h => p21 (by simpa [upb] using h), fun h => p22 (by simpa [upb] using h), fun h => p23 (by simpa [upb] using h), fun h => p24 (by simpa [upb] using h), fun h => p25 (by simpa [upb] using h), fun h => p26 (by simpa [upb] using h), fun h => p4 (by simpa [upb] using h)⟩
  case op2 =>
    rintro bb _ w' ⟨x14, x15, x16, x17, x18, x19, x20, x21, x22, x23, x24, x25, x26, x4, rfl, HB, R1, p14, p15, p17, p18, p19, p20, p21, p22, p23, p24, p25, p26, p4⟩ hb hd K hK
    simp only [Act.put, List.setIfInBounds_toArray, List.set_cons_zero, List.set_cons_succ]
    obtain rfl := (p14 (hd 0 (by decide))).symm
    obtain rfl := (p15 (hd 1 (by decide))).symm
    rw [if_pos (by rfl)]
    have hc := diff_calls k A0 c0 a A1 c1 b_ M X w' (Kd.C_below HC0.out HB) hc0 (Kd.C_below HC1.out HB) hc1 HM.out hMB hMl hbl HX.out
    go_simp
    refine hc.mono ?_; rintro e w3 ⟨A3, c3, rfl, q3, C3, b3⟩
    have HB2 := below_then HB HB.size b3
    try dsimp only
    exact hK _ _ ⟨.slice A0 a.length c0, .slice A1 b_.length c1, .slice A3 X.length c3, x17, x18, x19, x20, x21, x22, x23, x24, x25, x26, x4, by simp only [Act.put, List.setIfInBounds_toArray, List.set_cons_zero, List.set_cons_succ], HB2, fun _ => ⟨_, _, rfl, C3⟩, fun _ => rfl, fun _ => rfl, fun h => p17 (by simpa [upb] using h), fun h => p18 (by simpa [upb] using h), fun h => p19 (by simpa [upb] using h), fun h => p20 (by simpa [upb] using h), fun h => p21 (by simpa [upb] using h), fun h => p22 (by simpa [upb] using h), fun h => p23 (by simpa [upb] using h), fun h => p24 (by simpa [upb] using h), fun h => p25 (by simpa [upb] using h), fun h => p26 (by simpa [upb] using h), fun h => p4 (by simpa [upb] using h)⟩
  case op3 =>
    rintro bb _ w' ⟨x14, x15, x16, x17, x18, x19, x20, x21, x22, x23, x24, x25, x26, x4, rfl, HB, R1, p14, p15, p17, p18, p19, p20, p21, p22, p23, p24, p25, p26, p4⟩ hb hd K hK
    simp only [Act.put, List.setIfInBounds_toArray, List.set_cons_zero, List.set_cons_succ]
    rw [if_pos (by rfl)]
    obtain ⟨A3, c3, e3, C3⟩ := R1 (hd 2 (by decide))
    subst e3
    have k3 := Kd.C_string (P := Try.prog) (src := 22) (dst := 9) (c := c3) Try.underlying22 (by kernel_rfl) Try.underlying9 C3
    rw [← Href.out] at k3
    go_simp
    exact hK _ _ ⟨x14, x15, .slice A3 X.length c3, .string ref, x18, x19, x20, x21, x22, x23, x24, x25, x26, x4, by simp only [Act.put, List.setIfInBounds_toArray, List.set_cons_zero, List.set_cons_succ], HB, fun h => ⟨A3, c3, rfl, C3⟩, fun h => p14 (by simpa [upb] using h), fun h => p15 (by simpa [upb] using h), fun _ => rfl, fun h => p18 (by simpa [upb] using h), fun h => p19 (by simpa [upb] using h), fun h => p20 (by simpa [upb] using h), fun h => p21 (by simpa [upb] using h), fun h => p22 (by simpa [upb] using h), fun h => p23 (by simpa [upb] using h), fun h => p24 (by simpa [upb] using h), fun h => p25 (by simpa [upb] using h), fun h => p26 (by simpa [upb] using h), fun h => p4 (by simpa [upb] using h)⟩
  case op4 =>
    rintro bb _ w' ⟨x14, x15, x16, x17, x18, x19, x20, x21, x22, x23, x24, x25, x26, x4, rfl, HB, R1, p14, p15, p17, p18, p19, p20, p21, p22, p23, p24, p25, p26, p4⟩ hb hd K hK
    simp only [Act.put, List.setIfInBounds_toArray, List.set_cons_zero, List.set_cons_succ]
    rw [if_pos (by rfl)]
    go_simp
    exact hK _ _ ⟨x14, x15, x16, x17, .slice A0 a.length c0, x19, x20, x21, x22, x23, x24, x25, x26, x4, by simp only [Act.put, List.setIfInBounds_toArray, List.set_cons_zero, List.set_cons_succ], HB, fun h => R1 (by simpa [upb] using h), fun h => p14 (by simpa [upb] using h), fun h => p15 (by simpa [upb] using h), fun h => p17 (by simpa [upb] using h), fun _ => rfl, fun h => p19 (by simpa [upb] using h), fun h => p20 (by simpa [upb] using h), fun h => p21 (by simpa [upb] using h), fun h => p22 (by simpa [upb] using h), fun h => p23 (by simpa [upb] using h), fun h => p24 (by simpa [upb] using h), fun h => p25 (by simpa [upb] using h), fun h => p26 (by simpa [upb] using h), fun h => p4 (by simpa [upb] using h)⟩
  case op5 =>
    rintro bb _ w' ⟨x14, x15, x16, x17, x18, x19, x20, x21, x22, x23, x24, x25, x26, x4, rfl, HB, R1, p14, p15, p17, p18, p19, p20, p21, p22, p23, p24, p25, p26, p4⟩ hb hd K hK
    simp only [Act.put, List.setIfInBounds_toArray, List.set_cons_zero, List.set_cons_succ]
    obtain rfl := (p18 (hd 4 (by decide))).symm
    rw [if_pos (by rfl)]
    have k0 := Kd.C_string (P := Try.prog) (src := 22) (dst := 9) (c := c0) Try.underlying22 (by kernel_rfl) Try.underlying9 (Kd.C_below HC0.out HB)
    rw [← Hsa.out] at k0
    go_simp
    exact hK _ _ ⟨x14, x15, x16, x17, .slice A0 a.length c0, .string sa, x20, x21, x22, x23, x24, x25, x26, x4, by simp only [Act.put, List.setIfInBounds_toArray, List.set_cons_zero, List.set_cons_succ], HB, fun h => R1 (by simpa [upb] using h), fun h => p14 (by simpa [upb] using h), fun h => p15 (by simpa [upb] using h), fun h => p17 (by simpa [upb] using h), fun _ => rfl, fun _ => rfl, fun h => p20 (by simpa [upb] using h), fun h => p21 (by simpa [upb] using h), fun h => p22 (by simpa [upb] using h), fun h => p23 (by simpa [upb] using h), fun h => p24 (by simpa [upb] using h), fun h => p25 (by simpa [upb] using h), fun h => p26 (by simpa [upb] using h), fun h => p4 (by simpa [upb] using h)⟩
  case op6 =>
    rintro bb _ w' ⟨x14, x15, x16, x17, x18, x19, x20, x21, x22, x23, x24, x25, x26, x4, rfl, HB, R1, p14, p15, p17, p18, p19, p20, p21, p22, p23, p24, p25, p26, p4⟩ hb hd K hK
    simp only [Act.put, List.setIfInBounds_toArray, List.set_cons_zero, List.set_cons_succ]
    rw [if_pos (by rfl)]
    go_simp
    exact hK _ _ ⟨x14, x15, x16, x17, x18, x19, .slice A1 b_.length c1, x21, x22, x23, x24, x25, x26, x4, by simp only [Act.put, List.setIfInBounds_toArray, List.set_cons_zero, List.set_cons_succ], HB, fun h => R1 (by simpa [upb] using h), fun h => p14 (by simpa [upb] using h), fun h => p15 (by simpa [upb] using h), fun h => p17 (by simpa [upb] using h), fun h => p18 (by simpa [upb] using h), fun h => p19 (by simpa [upb] using h), fun _ => rfl, fun h => p21 (by simpa [upb] using h), fun h => p22 (by simpa [upb] using h), fun h => p23 (by simpa [upb] using h), fun h => p24 (by simpa [upb] using h), fun h => p25 (by simpa [upb] using h), fun h => p26 (by simpa [upb] using h), fun h => p4 (by simpa [upb] using h)⟩
  case op7 =>
    rintro bb _ w' ⟨x14, x15, x16, x17, x18, x19, x20, x21, x22, x23, x24, x25, x26, x4, rfl, HB, R1, p14, p15, p17, p18, p19, p20, p21, p22, p23, p24, p25, p26, p4⟩ hb hd K hK
    simp only [Act.put, List.setIfInBounds_toArray, List.set_cons_zero, List.set_cons_succ]
    obtain rfl := (p20 (hd 6 (by decide))).symm
    rw [if_pos (by rfl)]
    have k0 := Kd.C_string (P := Try.prog) (src := 22) (dst := 9) (c := c1) Try.underlying22 (by kernel_rfl) Try.underlying9 (Kd.C_below HC1.out HB)
    rw [← Hsb.out] at k0
    go_simp
    exact hK _ _ ⟨x14, x15, x16, x17, x18, x19, .slice A1 b_.length c1, .string sb, x22, x23, x24, x25, x26, x4, by simp only [Act.put, List.setIfInBounds_toArray, List.set_cons_zero, List.set_cons_succ], HB, fun h => R1 (by simpa [upb] using h), fun h => p14 (by simpa [upb] using h), fun h => p15 (by simpa [upb] using h), fun h => p17 (by simpa [upb] using h), fun h => p18 (by simpa [upb] using h), fun h => p19 (by simpa [upb] using h), fun _ => rfl, fun _ => rfl, fun h => p22 (by simpa [upb] using h), fun h => p23 (by simpa [upb] using h), fun h => p24 (by simpa [upb] using h), fun h => p25 (by simpa [upb] using h), fun h => p26 (by simpa [upb] using h), fun h => p4 (by simpa [upb] using h)⟩
  case op8 =>
    rintro bb _ w' ⟨x14, x15, x16, x17, x18, x19, x20, x21, x22, x23, x24, x25, x26, x4, rfl, HB, R1, p14, p15, p17, p18, p19, p20, p21, p22, p23, p24, p25, p26, p4⟩ hb hd K hK
    simp only [Act.put, List.setIfInBounds_toArray, List.set_cons_zero, List.set_cons_succ]
    obtain rfl := (p19 (hd 5 (by decide))).symm
    obtain rfl := (p21 (hd 7 (by decide))).symm
    rw [if_pos (by rfl)]
    have hc := rc.out w'
    go_simp
    refine hc.mono ?_; rintro e w3 ⟨rfl, b3⟩
    have HB2 := below_then HB HB.size b3
    try dsimp only
    exact hK _ _ ⟨x14, x15, x16, x17, x18, .string sa, x20, .string sb, .string ref, x23, x24, x25, x26, x4, by simp only [Act.put, List.setIfInBounds_toArray, List.set_cons_zero, List.set_cons_succ], HB2, fun h => by obtain ⟨A3, c3, e3, C3⟩ := R1 (by simpa [upb] using h); exact ⟨A3, c3, e3, Kd.C_below C3 b3⟩, fun h => p14 (by simpa [upb] using h), fun h => p15 (by simpa [upb] using h), fun h => p17 (by simpa [upb] using h), fun h => p18 (by simpa [upb] using h), fun _ => rfl, fun h => p20 (by simpa [upb] using h), fun _ => rfl, fun _ => rfl, fun h => p23 (by simpa [upb] using h), fun h => p24 (by simpa [upb] using h), fun h => p25 (by simpa [upb] using h), fun h => p26 (by simpa [upb] using h), fun h => p4 (by simpa [upb] using h)⟩
  case op9 =>
    rintro bb _ w' ⟨x14, x15, x16, x17, x18, x19, x20, x21, x22, x23, x24, x25, x26, x4, rfl, HB, R1, p14, p15, p17, p18, p19, p20, p21, p22, p23, p24, p25, p26, p4⟩ hb hd K hK
    simp only [Act.put, List.setIfInBounds_toArray, List.set_cons_zero, List.set_cons_succ]
    obtain rfl := (p17 (hd 3 (by decide))).symm
    obtain rfl := (p22 (hd 8 (by decide))).symm
    rw [if_pos (by rfl)]
    go_simp
    exact hK _ _ ⟨x14, x15, x16, .string ref, x18, x19, x20, x21, .string ref, .bool true, x24, x25, x26, x4, by simp only [Act.put, List.setIfInBounds_toArray, List.set_cons_zero, List.set_cons_succ], HB, fun h => R1 (by simpa [upb] using h), fun h => p14 (by simpa [upb] using h), fun h => p15 (by simpa [upb] using h), fun _ => rfl, fun h => p18 (by simpa [upb] using h), fun h => p19 (by simpa [upb] using h), fun h => p20 (by simpa [upb] using h), fun h => p21 (by simpa [upb] using h), fun _ => rfl, fun _ => rfl, fun h => p24 (by simpa [upb] using h), fun h => p25 (by simpa [upb] using h), fun h => p26 (by simpa [upb] using h), fun h => p4 (by simpa [upb] using h)⟩
  case op10 =>
    rintro bb _ w' ⟨x14, x15, x16, x17, x18, x19, x20, x21, x22, x23, x24, x25, x26, x4, rfl, HB, R1, p14, p15, p17, p18, p19, p20, p21, p22, p23, p24, p25, p26, p4⟩ hb hd K hK
    simp only [Act.put, List.setIfInBounds_toArray, List.set_cons_zero, List.set_cons_succ]
    obtain rfl := (p23 (hd 9 (by decide))).symm
    rw [if_pos (by rfl)]
    go_simp
    exact hK _ _ ⟨x14, x15, x16, x17, x18, x19, x20, x21, x22, .bool true, .bool true, x25, x26, x4, by simp only [Act.put, List.setIfInBounds_toArray, List.set_cons_zero, List.set_cons_succ], HB, fun h => R1 (by simpa [upb] using h), fun h => p14 (by simpa [upb] using h), fun h => p15 (by simpa [upb] using h), fun h => p17 (by simpa [upb] using h), fun h => p18 (by simpa [upb] using h), fun h => p19 (by simpa [upb] using h), fun h => p20 (by simpa [upb] using h), fun h => p21 (by simpa [upb] using h), fun h => p22 (by simpa [upb] using h), fun _ => rfl, fun _ => rfl, fun h => p25 (by simpa [upb] using h), fun h => p26 (by simpa [upb] using h), fun h => p4 (by simpa [upb] using h)⟩
  case op11 =>
    rintro bb _ w' ⟨x14, x15, x16, x17, x18, x19, x20, x21, x22, x23, x24, x25, x26, x4, rfl, HB, R1, p14, p15, p17, p18, p19, p20, p21, p22, p23, p24, p25, p26, p4⟩ hb hd K hK
    simp only [Act.put, List.setIfInBounds_toArray, List.set_cons_zero, List.set_cons_succ]
    obtain rfl := (p24 (hd 10 (by decide))).symm
    rw [if_pos (by rfl)]
    have hc := hwk.out w'
    go_simp
    refine hc.mono ?_; rintro e w3 ⟨rfl, b3⟩
    have HB2 := below_then HB HB.size b3
    try dsimp only
    exact hK _ _ ⟨x14, x15, x16, x17, x18, x19, x20, x21, x22, x23, .bool true, .bool true, x26, x4, by simp only [Act.put, List.setIfInBounds_toArray, List.set_cons_zero, List.set_cons_succ], HB2, fun h => by obtain ⟨A3, c3, e3, C3⟩ := R1 (by simpa [upb] using h); exact ⟨A3, c3, e3, Kd.C_below C3 b3⟩, fun h => p14 (by simpa [upb] using h), fun h => p15 (by simpa [upb] using h), fun h => p17 (by simpa [upb] using h), fun h => p18 (by simpa [upb] using h), fun h => p19 (by simpa [upb] using h), fun h => p20 (by simpa [upb] using h), fun h => p21 (by simpa [upb] using h), fun h => p22 (by simpa [upb] using h), fun h => p23 (by simpa [upb] using h), fun _ => rfl, fun _ => rfl, fun h => p26 (by simpa [upb] using h), fun h => p4 (by simpa [upb] using h)⟩
  case op12 =>
    rintro bb _ w' ⟨x14, x15, x16, x17, x18, x19, x20, x21, x22, x23, x24, x25, x26, x4, rfl, HB, R1, p14, p15, p17, p18, p19, p20, p21, p22, p23, p24, p25, p26, p4⟩ hb hd K hK
    simp only [Act.put, List.setIfInBounds_toArray, List.set_cons_zero, List.set_cons_succ]
    obtain rfl := (p24 (hd 10 (by decide))).symm
    obtain rfl := (p25 (hd 11 (by decide))).symm
    rw [if_pos (by rfl)]
    go_simp
    exact hK _ _ ⟨x14, x15, x16, x17, x18, x19, x20, x21, x22, x23, .bool true, .bool true, .bool true, x4, by simp only [Act.put, List.setIfInBounds_toArray, List.set_cons_zero, List.set_cons_succ], HB, fun h => R1 (by simpa [upb] using h), fun h => p14 (by simpa [upb] using h), fun h => p15 (by simpa [upb] using h), fun h => p17 (by simpa [upb] using h), fun h => p18 (by simpa [upb] using h), fun h => p19 (by simpa [upb] using h), fun h => p20 (by simpa [upb] using h), fun h => p21 (by simpa [upb] using h), fun h => p22 (by simpa [upb] using h), fun h => p23 (by simpa [upb] using h), fun _ => rfl, fun _ => rfl, fun _ => rfl, fun h => p4 (by simpa [upb] using h)⟩
  case op13 =>
    rintro bb _ w' ⟨x14, x15, x16, x17, x18, x19, x20, x21, x22, x23, x24, x25, x26, x4, rfl, HB, R1, p14, p15, p17, p18, p19, p20, p21, p22, p23, p24, p25, p26, p4⟩ hb hd K hK
    simp only [Act.put, List.setIfInBounds_toArray, List.set_cons_zero, List.set_cons_succ]
    obtain rfl := (p26 (hd 12 (by decide))).symm
    rw [if_pos (by rfl)]
    go_simp
    exact hK _ _ ⟨x14, x15, x16, x17, x18, x19, x20, x21, x22, x23, x24, x25, .bool true, .bool true, by simp only [Act.put, List.setIfInBounds_toArray, List.set_cons_zero, List.set_cons_succ], HB, fun h => R1 (by simpa [upb] using h), fun h => p14 (by simpa [upb] using h), fun h => p15 (by simpa [upb] using h), fun h => p17 (by simpa [upb] using h), fun h => p18 (by simpa [upb] using h), fun h => p19 (by simpa [upb] using h), fun h => p20 (by simpa [upb] using h), fun h => p21 (by simpa [upb] using h), fun h => p22 (by simpa [upb] using h), fun h => p23 (by simpa [upb] using h), fun h => p24 (by simpa [upb] using h), fun h => p25 (by simpa [upb] using h), fun _ => rfl, fun _ => rfl⟩
  case done =>
    rintro bb _ w' hb ⟨x14, x15, x16, x17, x18, x19, x20, x21, x22, x23, x24, x25, x26, x4, rfl, HB, R1, p14, p15, p17, p18, p19, p20, p21, p22, p23, p24, p25, p26, p4⟩
    obtain rfl := (p14 (hb 0 (by decide))).symm
    obtain rfl := (p15 (hb 1 (by decide))).symm
    obtain rfl := (p17 (hb 3 (by decide))).symm
    obtain rfl := (p18 (hb 4 (by decide))).symm
    obtain rfl := (p19 (hb 5 (by decide))).symm
    obtain rfl := (p20 (hb 6 (by decide))).symm
    obtain rfl := (p21 (hb 7 (by decide))).symm
    obtain rfl := (p22 (hb 8 (by decide))).symm
    obtain rfl := (p23 (hb 9 (by decide))).symm
    obtain rfl := (p24 (hb 10 (by decide))).symm
    obtain rfl := (p25 (hb 11 (by decide))).symm
    obtain rfl := (p26 (hb 12 (by decide))).symm
    obtain rfl := (p4 (hb 13 (by decide))).symm
    simp only [Act.put, List.setIfInBounds_toArray, List.set_cons_zero, List.set_cons_succ]
    clear hb p14 p15 p17 p18 p19 p20 p21 p22 p23 p24 p25 p26 p4
    go_wp2_with fail
    go_ret
    exact ⟨rfl, HB⟩
end Go.Proofs.Ytocadookdkmahaa.PDl
