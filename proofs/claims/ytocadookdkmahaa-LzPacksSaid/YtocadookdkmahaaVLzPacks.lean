import Derived.Test.YtocadookdkmahaaPureLzPacks
namespace Go.Proofs.Ytocadookdkmahaa.VLz
open Go.RowKit Go.Proofs.Ytocadookdkmahaa.PLzPacks Go.Proofs.Ytocadookdkmahaa.PLz Go.Proofs.YtocadookdkmahaaW.PrintWords Go.Proofs.YtocadookdkmahaaW.PrintLast Go.Proofs.YtocadookdkmahaaW.PrintMore
set_option linter.unusedVariables false
set_option maxHeartbeats 4000000
set_option maxRecDepth 20000
theorem packs_big (A : Option Addr) (len cap : Nat) (w : World) (h : 600 < len) :
    Calls Try.prog 5 #[.slice A len cap] w fun e w' => e = .returned (.bool true) ∧ Below w.heap.size w w' := by
  have hw := Lib.hid (fun W => PLz.rematchlaw04_wakes.calls0 W)
  have hl' : (600 : Int) < len := by omega
  go_enter Try.func5, Try.ntmps5
  go_wp2_with fail
  refine (hw.out _).mono ?_; rintro e w1 ⟨rfl, b⟩
  go_wp2_with fail
  go_ret
  exact ⟨rfl, b⟩
theorem packs_walk (A : Option Addr) (cap : Nat) (z : List Int) (w : World) (hz : IsB z) (hzl : z.length ≤ 600) (hC : Kd.C (Kd.int .u8) w A z.length z) (hcap : z.length ≤ cap) :
    Calls Try.prog 5 #[.slice A z.length cap] w fun e w' => e = .returned (.bool true) ∧ Below w.heap.size w w' := by
  have hwk := Lib.hid (fun W => PLz.rematchlaw04_wakes.calls0 W)
  obtain ⟨k, hk⟩ := Pure.LzP.pack_ref hz hzl
  have hk := hk k (Nat.le_refl _)
  have hf : PLz.lz_Pack.f z = some (lz_pack z) := by
    unfold PLz.lz_Pack.f
    rw [if_pos ⟨by omega, by unfold wire_bytes; simp; exact fun x hx => hz x hx⟩]
  have g1 := Lib.hid hf
  obtain ⟨X, hX⟩ : ∃ X, X = lz_pack z := ⟨_, rfl⟩
  rw [← hX] at g1 hk
  obtain ⟨own, hown⟩ : ∃ o, o = strOfNums z := ⟨_, rfl⟩
  obtain ⟨ref, href⟩ : ∃ o, o = strOfNums X := ⟨_, rfl⟩
  rw [← hown, ← href] at hk
  have rc := Lib.hid (fun W => rematchref04_Pack.calls k own ref W hk)
  have hz' : ¬ (600 : Int) < z.length := by omega
  have HC := Lib.hid hC
  have Hown := Lib.hid hown
  have Href := Lib.hid href
  clear hC hk hf hX hz hown href
  go_enter Try.func5, Try.ntmps5
  go_wp2_with fail
  refine wp_region_inv (fun a0 w_0 b a' w' => ∃ x7 x8 x9 x10 x11 x12 x13 x14 x15 x16 x2 : Value, a' = (((((((((((a0.put (some 7) x7).put (some 8) x8).put (some 9) x9).put (some 10) x10).put (some 11) x11).put (some 12) x12).put (some 13) x13).put (some 14) x14).put (some 15) x15).put (some 16) x16).put (some 2) x2) ∧ Below w.heap.size w w' ∧ (b 1 = true → ∃ A3 c3, x8 = .slice A3 X.length c3 ∧ Kd.C (Kd.int .u8) w' A3 X.length X) ∧ (b 0 = true → x7 = .slice A z.length cap) ∧ (b 2 = true → x9 = .string ref) ∧ (b 3 = true → x10 = .slice A z.length cap) ∧ (b 4 = true → x11 = .string own) ∧ (b 5 = true → x12 = .string ref) ∧ (b 6 = true → x13 = .bool true) ∧ (b 7 = true → x14 = .bool true) ∧ (b 8 = true → x15 = .bool true) ∧ (b 9 = true → x16 = .bool true) ∧ (b 10 = true → x2 = .bool true)) (by kernel_rfl) (by kernel_rfl) ?start ⟨?op0, ?op1, ?op2, ?op3, ?op4, ?op5, ?op6, ?op7, ?op8, ?op9, ?op10, trivial⟩ ?done
  case start => exact ⟨_, _, _, _, _, _, _, _, _, _, _, by simp only [Act.put, List.setIfInBounds_toArray, List.set_cons_zero, List.set_cons_succ]; rfl, below_drew1 (Below.refl _ _), fun h => absurd h (by decide), fun h => absurd h (by decide), fun h => absurd h (by decide), fun h => absurd h (by decide), fun h => absurd h (by decide), fun h => absurd h (by decide), fun h => absurd h (by decide), fun h => absurd h (by decide), fun h => absurd h (by decide), fun h => absurd h (by decide), fun h => absurd h (by decide)⟩
  case op0 =>
    rintro bb _ w' ⟨x7, x8, x9, x10, x11, x12, x13, x14, x15, x16, x2, rfl, HB, R1, p7, p9, p10, p11, p12, p13, p14, p15, p16, p2⟩ hb hd K hK
    simp only [Act.put, List.setIfInBounds_toArray, List.set_cons_zero, List.set_cons_succ]
    rw [if_pos (by rfl)]
    go_simp
    exact hK _ _ ⟨.slice A z.length cap, x8, x9, x10, x11, x12, x13, x14, x15, x16, x2, by simp only [Act.put, List.setIfInBounds_toArray, List.set_cons_zero, List.set_cons_succ], HB, fun h => R1 (by simpa [upb] using h), fun _ => rfl, fun h => p9 (by simpa [upb] using h), fun h => p10 (by simpa [upb] using h), fun h => p11 (by simpa [upb] using h), fun h => p12 (by simpa [upb] using h), fun h => p13 (by simpa [upb] using h), fun h => p14 (by simpa [upb] using h), fun h => p15 (by simpa [upb] using h), fun h => p16 (by simpa [upb] using h), fun h => p2 (by simpa [upb] using h)⟩
  case op1 =>
    rintro bb _ w' ⟨x7, x8, x9, x10, x11, x12, x13, x14, x15, x16, x2, rfl, HB, R1, p7, p9, p10, p11, p12, p13, p14, p15, p16, p2⟩ hb hd K hK
    simp only [Act.put, List.setIfInBounds_toArray, List.set_cons_zero, List.set_cons_succ]
    obtain rfl := (p7 (hd 0 (by decide))).symm
    rw [if_pos (by rfl)]
    have hc := PLz.lz_Pack.calls A cap z X w' (Kd.C_below HC.out HB) hcap g1.out
    go_simp
    refine hc.mono ?_; rintro e w3 ⟨v3, rfl, R3, b3⟩
    obtain ⟨A3, c3, rfl, q3, C3⟩ := wire_form R3
    have HB2 := below_then HB HB.size b3
    try dsimp only
    exact hK _ _ ⟨.slice A z.length cap, .slice A3 X.length c3, x9, x10, x11, x12, x13, x14, x15, x16, x2, by simp only [Act.put, List.setIfInBounds_toArray, List.set_cons_zero, List.set_cons_succ], HB2, fun _ => ⟨_, _, rfl, C3⟩, fun _ => rfl, fun h => p9 (by simpa [upb] using h), fun h => p10 (by simpa [upb] using h), fun h => p11 (by simpa [upb] using h), fun h => p12 (by simpa [upb] using h), fun h => p13 (by simpa [upb] using h), fun h => p14 (by simpa [upb] using h), fun h => p15 (by simpa [upb] using h), fun h => p16 (by simpa [upb] using h), fun h => p2 (by simpa [upb] using h)⟩
  case op2 =>
    rintro bb _ w' ⟨x7, x8, x9, x10, x11, x12, x13, x14, x15, x16, x2, rfl, HB, R1, p7, p9, p10, p11, p12, p13, p14, p15, p16, p2⟩ hb hd K hK
    simp only [Act.put, List.setIfInBounds_toArray, List.set_cons_zero, List.set_cons_succ]
    rw [if_pos (by rfl)]
    obtain ⟨A3, c3, e3, C3⟩ := R1 (hd 1 (by decide))
    subst e3
    have k3 := Kd.C_string (P := Try.prog) (src := 22) (dst := 9) (c := c3) Try.underlying22 (by kernel_rfl) Try.underlying9 C3
    rw [← Href.out] at k3
    go_simp
    exact hK _ _ ⟨x7, .slice A3 X.length c3, .string ref, x10, x11, x12, x13, x14, x15, x16, x2, by simp only [Act.put, List.setIfInBounds_toArray, List.set_cons_zero, List.set_cons_succ], HB, fun h => ⟨A3, c3, rfl, C3⟩, fun h => p7 (by simpa [upb] using h), fun _ => rfl, fun h => p10 (by simpa [upb] using h), fun h => p11 (by simpa [upb] using h), fun h => p12 (by simpa [upb] using h), fun h => p13 (by simpa [upb] using h), fun h => p14 (by simpa [upb] using h), fun h => p15 (by simpa [upb] using h), fun h => p16 (by simpa [upb] using h), fun h => p2 (by simpa [upb] using h)⟩
  case op3 =>
    rintro bb _ w' ⟨x7, x8, x9, x10, x11, x12, x13, x14, x15, x16, x2, rfl, HB, R1, p7, p9, p10, p11, p12, p13, p14, p15, p16, p2⟩ hb hd K hK
    simp only [Act.put, List.setIfInBounds_toArray, List.set_cons_zero, List.set_cons_succ]
    rw [if_pos (by rfl)]
    go_simp
    exact hK _ _ ⟨x7, x8, x9, .slice A z.length cap, x11, x12, x13, x14, x15, x16, x2, by simp only [Act.put, List.setIfInBounds_toArray, List.set_cons_zero, List.set_cons_succ], HB, fun h => R1 (by simpa [upb] using h), fun h => p7 (by simpa [upb] using h), fun h => p9 (by simpa [upb] using h), fun _ => rfl, fun h => p11 (by simpa [upb] using h), fun h => p12 (by simpa [upb] using h), fun h => p13 (by simpa [upb] using h), fun h => p14 (by simpa [upb] using h), fun h => p15 (by simpa [upb] using h), fun h => p16 (by simpa [upb] using h), fun h => p2 (by simpa [upb] using h)⟩
  case op4 =>
    rintro bb _ w' ⟨x7, x8, x9, x10, x11, x12, x13, x14, x15, x16, x2, rfl, HB, R1, p7, p9, p10, p11, p12, p13, p14, p15, p16, p2⟩ hb hd K hK
    simp only [Act.put, List.setIfInBounds_toArray, List.set_cons_zero, List.set_cons_succ]
    obtain rfl := (p10 (hd 3 (by decide))).symm
    rw [if_pos (by rfl)]
    have k0 := Kd.C_string (P := Try.prog) (src := 22) (dst := 9) (c := cap) Try.underlying22 (by kernel_rfl) Try.underlying9 (Kd.C_below HC.out HB)
    rw [← Hown.out] at k0
    go_simp
    exact hK _ _ ⟨x7, x8, x9, .slice A z.length cap, .string own, x12, x13, x14, x15, x16, x2, by simp only [Act.put, List.setIfInBounds_toArray, List.set_cons_zero, List.set_cons_succ], HB, fun h => R1 (by simpa [upb] using h), fun h => p7 (by simpa [upb] using h), fun h => p9 (by simpa [upb] using h), fun _ => rfl, fun _ => rfl, fun h => p12 (by simpa [upb] using h), fun h => p13 (by simpa [upb] using h), fun h => p14 (by simpa [upb] using h), fun h => p15 (by simpa [upb] using h), fun h => p16 (by simpa [upb] using h), fun h => p2 (by simpa [upb] using h)⟩
  case op5 =>
    rintro bb _ w' ⟨x7, x8, x9, x10, x11, x12, x13, x14, x15, x16, x2, rfl, HB, R1, p7, p9, p10, p11, p12, p13, p14, p15, p16, p2⟩ hb hd K hK
    simp only [Act.put, List.setIfInBounds_toArray, List.set_cons_zero, List.set_cons_succ]
    obtain rfl := (p11 (hd 4 (by decide))).symm
    rw [if_pos (by rfl)]
    have hc := rc.out w'
    go_simp
    refine hc.mono ?_; rintro e w3 ⟨rfl, b3⟩
    have HB2 := below_then HB HB.size b3
    try dsimp only
    exact hK _ _ ⟨x7, x8, x9, x10, .string own, .string ref, x13, x14, x15, x16, x2, by simp only [Act.put, List.setIfInBounds_toArray, List.set_cons_zero, List.set_cons_succ], HB2, fun h => by obtain ⟨A3, c3, e3, C3⟩ := R1 (by simpa [upb] using h); exact ⟨A3, c3, e3, Kd.C_below C3 b3⟩, fun h => p7 (by simpa [upb] using h), fun h => p9 (by simpa [upb] using h), fun h => p10 (by simpa [upb] using h), fun _ => rfl, fun _ => rfl, fun h => p13 (by simpa [upb] using h), fun h => p14 (by simpa [upb] using h), fun h => p15 (by simpa [upb] using h), fun h => p16 (by simpa [upb] using h), fun h => p2 (by simpa [upb] using h)⟩
  case op6 =>
    rintro bb _ w' ⟨x7, x8, x9, x10, x11, x12, x13, x14, x15, x16, x2, rfl, HB, R1, p7, p9, p10, p11, p12, p13, p14, p15, p16, p2⟩ hb hd K hK
    simp only [Act.put, List.setIfInBounds_toArray, List.set_cons_zero, List.set_cons_succ]
    obtain rfl := (p9 (hd 2 (by decide))).symm
    obtain rfl := (p12 (hd 5 (by decide))).symm
    rw [if_pos (by rfl)]
    go_simp
    exact hK _ _ ⟨x7, x8, .string ref, x10, x11, .string ref, .bool true, x14, x15, x16, x2, by simp only [Act.put, List.setIfInBounds_toArray, List.set_cons_zero, List.set_cons_succ], HB, fun h => R1 (by simpa [upb] using h), fun h => p7 (by simpa [upb] using h), fun _ => rfl, fun h => p10 (by simpa [upb] using h), fun h => p11 (by simpa [upb] using h), fun _ => rfl, fun _ => rfl, fun h => p14 (by simpa [upb] using h), fun h => p15 (by simpa [upb] using h), fun h => p16 (by simpa [upb] using h), fun h => p2 (by simpa [upb] using h)⟩
  case op7 =>
    rintro bb _ w' ⟨x7, x8, x9, x10, x11, x12, x13, x14, x15, x16, x2, rfl, HB, R1, p7, p9, p10, p11, p12, p13, p14, p15, p16, p2⟩ hb hd K hK
    simp only [Act.put, List.setIfInBounds_toArray, List.set_cons_zero, List.set_cons_succ]
    obtain rfl := (p13 (hd 6 (by decide))).symm
    rw [if_pos (by rfl)]
    go_simp
    exact hK _ _ ⟨x7, x8, x9, x10, x11, x12, .bool true, .bool true, x15, x16, x2, by simp only [Act.put, List.setIfInBounds_toArray, List.set_cons_zero, List.set_cons_succ], HB, fun h => R1 (by simpa [upb] using h), fun h => p7 (by simpa [upb] using h), fun h => p9 (by simpa [upb] using h), fun h => p10 (by simpa [upb] using h), fun h => p11 (by simpa [upb] using h), fun h => p12 (by simpa [upb] using h), fun _ => rfl, fun _ => rfl, fun h => p15 (by simpa [upb] using h), fun h => p16 (by simpa [upb] using h), fun h => p2 (by simpa [upb] using h)⟩
  case op8 =>
    rintro bb _ w' ⟨x7, x8, x9, x10, x11, x12, x13, x14, x15, x16, x2, rfl, HB, R1, p7, p9, p10, p11, p12, p13, p14, p15, p16, p2⟩ hb hd K hK
    simp only [Act.put, List.setIfInBounds_toArray, List.set_cons_zero, List.set_cons_succ]
    obtain rfl := (p14 (hd 7 (by decide))).symm
    rw [if_pos (by rfl)]
    have hc := hwk.out w'
    go_simp
    refine hc.mono ?_; rintro e w3 ⟨rfl, b3⟩
    have HB2 := below_then HB HB.size b3
    try dsimp only
    exact hK _ _ ⟨x7, x8, x9, x10, x11, x12, x13, .bool true, .bool true, x16, x2, by simp only [Act.put, List.setIfInBounds_toArray, List.set_cons_zero, List.set_cons_succ], HB2, fun h => by obtain ⟨A3, c3, e3, C3⟩ := R1 (by simpa [upb] using h); exact ⟨A3, c3, e3, Kd.C_below C3 b3⟩, fun h => p7 (by simpa [upb] using h), fun h => p9 (by simpa [upb] using h), fun h => p10 (by simpa [upb] using h), fun h => p11 (by simpa [upb] using h), fun h => p12 (by simpa [upb] using h), fun h => p13 (by simpa [upb] using h), fun _ => rfl, fun _ => rfl, fun h => p16 (by simpa [upb] using h), fun h => p2 (by simpa [upb] using h)⟩
  case op9 =>
    rintro bb _ w' ⟨x7, x8, x9, x10, x11, x12, x13, x14, x15, x16, x2, rfl, HB, R1, p7, p9, p10, p11, p12, p13, p14, p15, p16, p2⟩ hb hd K hK
    simp only [Act.put, List.setIfInBounds_toArray, List.set_cons_zero, List.set_cons_succ]
    obtain rfl := (p14 (hd 7 (by decide))).symm
    obtain rfl := (p15 (hd 8 (by decide))).symm
    rw [if_pos (by rfl)]
    go_simp
    exact hK _ _ ⟨x7, x8, x9, x10, x11, x12, x13, .bool true, .bool true, .bool true, x2, by simp only [Act.put, List.setIfInBounds_toArray, List.set_cons_zero, List.set_cons_succ], HB, fun h => R1 (by simpa [upb] using h), fun h => p7 (by simpa [upb] using h), fun h => p9 (by simpa [upb] using h), fun h => p10 (by simpa [upb] using h), fun h => p11 (by simpa [upb] using h), fun h => p12 (by simpa [upb] using h), fun h => p13 (by simpa [upb] using h), fun _ => rfl, fun _ => rfl, fun _ => rfl, fun h => p2 (by simpa [upb] using h)⟩
  case op10 =>
    rintro bb _ w' ⟨x7, x8, x9, x10, x11, x12, x13, x14, x15, x16, x2, rfl, HB, R1, p7, p9, p10, p11, p12, p13, p14, p15, p16, p2⟩ hb hd K hK
    simp only [Act.put, List.setIfInBounds_toArray, List.set_cons_zero, List.set_cons_succ]
    obtain rfl := (p16 (hd 9 (by decide))).symm
    rw [if_pos (by rfl)]
    go_simp
    exact hK _ _ ⟨x7, x8, x9, x10, x11, x12, x13, x14, x15, .bool true, .bool true, by simp only [Act.put, List.setIfInBounds_toArray, List.set_cons_zero, List.set_cons_succ], HB, fun h => R1 (by simpa [upb] using h), fun h => p7 (by simpa [upb] using h), fun h => p9 (by simpa [upb] using h), fun h => p10 (by simpa [upb] using h), fun h => p11 (by simpa [upb] using h), fun h => p12 (by simpa [upb] using h), fun h => p13 (by simpa [upb] using h), fun h => p14 (by simpa [upb] using h), fun h => p15 (by simpa [upb] using h), fun _ => rfl, fun _ => rfl⟩
  case done =>
    rintro bb _ w' hb ⟨x7, x8, x9, x10, x11, x12, x13, x14, x15, x16, x2, rfl, HB, R1, p7, p9, p10, p11, p12, p13, p14, p15, p16, p2⟩
    obtain rfl := (p7 (hb 0 (by decide))).symm
    obtain rfl := (p9 (hb 2 (by decide))).symm
    obtain rfl := (p10 (hb 3 (by decide))).symm
    obtain rfl := (p11 (hb 4 (by decide))).symm
    obtain rfl := (p12 (hb 5 (by decide))).symm
    obtain rfl := (p13 (hb 6 (by decide))).symm
    obtain rfl := (p14 (hb 7 (by decide))).symm
    obtain rfl := (p15 (hb 8 (by decide))).symm
    obtain rfl := (p16 (hb 9 (by decide))).symm
    obtain rfl := (p2 (hb 10 (by decide))).symm
    simp only [Act.put, List.setIfInBounds_toArray, List.set_cons_zero, List.set_cons_succ]
    clear hb p7 p9 p10 p11 p12 p13 p14 p15 p16 p2
    go_wp2_with fail
    go_ret
    exact ⟨rfl, HB⟩
end Go.Proofs.Ytocadookdkmahaa.VLz
