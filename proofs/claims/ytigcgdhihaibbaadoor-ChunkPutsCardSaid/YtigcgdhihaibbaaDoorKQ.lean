/- Chunk: the law ChunkPuts: its walk, the document's Pack, the row. No condition. -/
import Derived.Test.YtigcgdhihaibbaaDoorK6
import Derived.Test.YtigcgdhihaibbaaDoorPRef
import Derived.Test.YtigcgdhihaibbaaDoorZQ
import Derived.Test.YtigcgdhihaibbaaDoorZW
import Derived.Test.YtigcgdhihaibbaaDoorKP1
/- Chunk: the law ChunkPuts: its walk. -/
namespace Go.Proofs.YtigcgdhihaibbaaDoor.PLz
open Go.RowKit Go.Proofs.YtigcgdhihaibbaaDoorW.PrintWords Go.Proofs.YtigcgdhihaibbaaDoorW.PrintLast Go.Proofs.YtigcgdhihaibbaaDoorW.PrintMore
attribute [local go_sem] max2_int min2_int max_two min_two max_three min_three max_four min_four   -- for this text's walks alone
set_option linter.unusedVariables false
set_option linter.unusedSimpArgs false
set_option maxHeartbeats 4000000
set_option maxRecDepth 20000

theorem ck_puts_big (A0 : Option Addr) (n0 c0 : Nat) (A1 : Option Addr) (n1 c1 : Nat) (kind : Int) (w : World) (hT : Tab w) (h : 2000 < n0 ∨ 2000 < n1) :
    Calls Tryd.prog 3 #[.slice A0 n0 c0, .slice A1 n1 c1, .int .u8 kind] w fun e w' => e = .returned (.bool true) ∧ Below w.heap.size w w' := by
  have hw := Lib.hid (ck_wakes_calls w hT)
  clear hT
  by_cases hb : 2000 < n0
  · have hl' : (2000 : Int) < n0 := by omega
    go_enter Tryd.func3, Tryd.ntmps3
    go_wp2_with fail
    refine hw.out.mono ?_; rintro e w1 ⟨rfl, b⟩
    go_wp2_with fail
    go_ret
    exact ⟨rfl, b⟩
  · have hl' : ¬ (2000 : Int) < n0 := by omega
    have hl2 : (2000 : Int) < n1 := by omega
    go_enter Tryd.func3, Tryd.ntmps3
    go_wp2_with fail
    refine hw.out.mono ?_; rintro e w1 ⟨rfl, b⟩
    go_wp2_with fail
    go_ret
    exact ⟨rfl, b⟩
theorem ck_puts_walk (A0 : Option Addr) (c0 : Nat) (a : List Int) (A1 : Option Addr) (c1 : Nat) (d : List Int) (kind : Int) (w : World)
    (hr0 : Kd.C (Kd.int .u8) w A0 a.length a) (hc0 : a.length ≤ c0) (hr1 : Kd.C (Kd.int .u8) w A1 d.length d) (hc1 : d.length ≤ c1)
    (ha : a.length ≤ 2000) (hd : d.length ≤ 2000) (haB : IsB a) (hdB : IsB d) (hk : 0 ≤ kind ∧ kind < 256) (hT : Tab w)
    (hrp : ∀ W : World, Calls Tryd.prog 8 #[.int .u8 kind, .string (strOfNums d)] W fun e w' => e = .returned (.string (strOfNums (ck_put kind d))) ∧ Below W.heap.size W w') :
    Calls Tryd.prog 3 #[.slice A0 a.length c0, .slice A1 d.length c1, .int .u8 kind] w fun e w' => e = .returned (.bool true) ∧ Below w.heap.size w w' := by
  have hl1 : ¬ (2000 : Int) < a.length := by omega
  have hl2 : ¬ (2000 : Int) < d.length := by omega
  obtain ⟨R, hR⟩ : ∃ R, a ++ ck_put kind d = R := ⟨_, rfl⟩
  obtain ⟨sa, hsa⟩ : ∃ o, o = strOfNums a := ⟨_, rfl⟩
  obtain ⟨sd, hsd⟩ : ∃ o, o = strOfNums d := ⟨_, rfl⟩
  obtain ⟨sp, hsp⟩ : ∃ o, o = strOfNums (ck_put kind d) := ⟨_, rfl⟩
  have HRS := Lib.hid (show strOfNums R = sa ++ sp by rw [← hR, str_app, hsa, hsp])
  have hpl : (ck_put kind d).length ≤ 200000 := by
    unfold ck_put ck_main
    simp only [List.length_append, List.length_cons, List.length_nil]
    have := ck_vb_len 9 (d.length : Int)
    have := ck_vb_len 9 ((ck_body d).length : Int)
    have : (ck_body d).length ≤ d.length := by unfold ck_body; split <;> omega
    have : (ck_fix (ck_crc ([kind, ck_how d] ++ wire_vb 9 (d.length : Int) ++ wire_vb 9 ((ck_body d).length : Int) ++ ck_body d))).length = 4 := rfl
    omega
  have hzz : ¬ 9223372036854775807 < sa.size + sp.size := by rw [hsa, hsp, str_size, str_size]; omega
  rw [← hsd, ← hsp] at hrp
  have HRP := Lib.hid hrp
  have HR := Lib.hid hR
  have Hsa := Lib.hid hsa
  have Hsd := Lib.hid hsd
  have k0 := Kd.C_string (P := Tryd.prog) (src := 22) (dst := 9) (c := c0) Tryd.underlying22 (by kernel_rfl) Tryd.underlying9 hr0
  rw [← hsa] at k0
  have HR0 := Lib.hid hr0
  have HR1 := Lib.hid hr1
  have HT := Lib.hid hT
  have HAB := Lib.hid haB
  have HDB := Lib.hid hdB
  clear hr0 hr1 hT haB hdB hrp hR hsa hsd hsp hpl
  go_enter Tryd.func3, Tryd.ntmps3
  go_wp2_with fail
  clear k0
  refine (ck_Put_calls A0 c0 a kind A1 c1 d w HR0.out hc0 HR1.out hc1 HAB.out (by omega) hk HDB.out (by omega) HT.out R HR.out).mono ?_; rintro e w1 ⟨A3, c3, rfl, q3, R3, b1⟩
  have HB1 := Lib.hid b1
  have HC0 := Lib.hid (Kd.C_below HR0.out b1)
  have HC1 := Lib.hid (Kd.C_below HR1.out b1)
  have HC3 := Lib.hid (wire_R_C' R3)
  have HT1 := Lib.hid (HT.out.keep b1)
  clear b1 R3
  go_wp2_with fail
  refine wp_region_inv (fun a0 w_0 b a' w' => ∃ x24 x25 x26 x27 x28 x29 x30 x31 x32 x33 x34 x35 x36 x37 x38 x39 x40 x41 x6 : Value, a' = (((((((((((((((((((a0.put (some 24) x24).put (some 25) x25).put (some 26) x26).put (some 27) x27).put (some 28) x28).put (some 29) x29).put (some 30) x30).put (some 31) x31).put (some 32) x32).put (some 33) x33).put (some 34) x34).put (some 35) x35).put (some 36) x36).put (some 37) x37).put (some 38) x38).put (some 39) x39).put (some 40) x40).put (some 41) x41).put (some 6) x6) ∧ Below w1.heap.size w1 w' ∧ (b 0 = true → x24 = .slice A3 R.length c3) ∧ (b 1 = true → x25 = .string (sa ++ sp)) ∧ (b 2 = true → x26 = .string sa) ∧ (b 3 = true → x27 = .int .u8 kind) ∧ (b 4 = true → x28 = .slice A1 d.length c1) ∧ (b 5 = true → x29 = .string sd) ∧ (b 6 = true → x30 = .string sp) ∧ (b 7 = true → x31 = .string (sa ++ sp)) ∧ (b 8 = true → x32 = .bool true) ∧ (b 9 = true → x33 = .bool true) ∧ (b 10 = true → x34 = .slice A0 a.length c0) ∧ (b 11 = true → x35 = .string sa) ∧ (b 12 = true → x36 = .string sa) ∧ (b 13 = true → x37 = .bool true) ∧ (b 14 = true → x38 = .bool true) ∧ (b 15 = true → x39 = .bool true) ∧ (b 16 = true → x40 = .bool true) ∧ (b 17 = true → x41 = .bool true) ∧ (b 18 = true → x6 = .bool true)) (by kernel_rfl) (by kernel_rfl) ?start ⟨?op0, ?op1, ?op2, ?op3, ?op4, ?op5, ?op6, ?op7, ?op8, ?op9, ?op10, ?op11, ?op12, ?op13, ?op14, ?op15, ?op16, ?op17, ?op18, trivial⟩ ?done
  case start => exact ⟨_, _, _, _, _, _, _, _, _, _, _, _, _, _, _, _, _, _, _, by simp only [Act.put, List.setIfInBounds_toArray, List.set_cons_zero, List.set_cons_succ]; rfl, below_drew1 (Below.refl _ _), fun h => absurd h (by decide), fun h => absurd h (by decide), fun h => absurd h (by decide), fun h => absurd h (by decide), fun h => absurd h (by decide), fun h => absurd h (by decide), fun h => absurd h (by decide), fun h => absurd h (by decide), fun h => absurd h (by decide), fun h => absurd h (by decide), fun h => absurd h (by decide), fun h => absurd h (by decide), fun h => absurd h (by decide), fun h => absurd h (by decide), fun h => absurd h (by decide), fun h => absurd h (by decide), fun h => absurd h (by decide), fun h => absurd h (by decide), fun h => absurd h (by decide)⟩
  case op0 =>
    rintro bb _ w' ⟨x24, x25, x26, x27, x28, x29, x30, x31, x32, x33, x34, x35, x36, x37, x38, x39, x40, x41, x6, rfl, HB, p24, p25, p26, p27, p28, p29, p30, p31, p32, p33, p34, p35, p36, p37, p38, p39, p40, p41, p6⟩ hb hd K hK
    simp only [Act.put, List.setIfInBounds_toArray, List.set_cons_zero, List.set_cons_succ]
    rw [if_pos (by rfl)]
    go_simp
    exact hK _ _ ⟨.slice A3 R.length c3, x25, x26, x27, x28, x29, x30, x31, x32, x33, x34, x35, x36, x37, x38, x39, x40, x41, x6, by simp only [Act.put, List.setIfInBounds_toArray, List.set_cons_zero, List.set_cons_succ], HB, fun _ => rfl, fun h => p25 (by simpa [upb] using h), fun h => p26 (by simpa [upb] using h), fun h => p27 (by simpa [upb] using h), fun h => p28 (by simpa [upb] using h), fun h => p29 (by simpa [upb] using h), fun h => p30 (by simpa [upb] using h), fun h => p31 (by simpa [upb] using h), fun h => p32 (by simpa [upb] using h), fun h => p33 (by simpa [upb] using h), fun h => p34 (by simpa [upb] using h), fun h => p35 (by simpa [upb] using h), fun h => p36 (by simpa [upb] using h), fun h => p37 (by simpa [upb] using h), fun h => p38 (by simpa [upb] using h), fun h => p39 (by simpa [upb] using h), fun h => p40 (by simpa [upb] using h), fun h => p41 (by simpa [upb] using h), fun h => p6 (by simpa [upb] using h)⟩
  case op1 =>
    rintro bb _ w' ⟨x24, x25, x26, x27, x28, x29, x30, x31, x32, x33, x34, x35, x36, x37, x38, x39, x40, x41, x6, rfl, HB, p24, p25, p26, p27, p28, p29, p30, p31, p32, p33, p34, p35, p36, p37, p38, p39, p40, p41, p6⟩ hb hd K hK
    simp only [Act.put, List.setIfInBounds_toArray, List.set_cons_zero, List.set_cons_succ]
    obtain rfl := (p24 (hd 0 (by decide))).symm
    rw [if_pos (by rfl)]
    have k0 := Kd.C_string (P := Tryd.prog) (src := 22) (dst := 9) (c := c3) Tryd.underlying22 (by kernel_rfl) Tryd.underlying9 (Kd.C_below HC3.out HB)
    rw [HRS.out] at k0
    go_simp
    exact hK _ _ ⟨.slice A3 R.length c3, .string (sa ++ sp), x26, x27, x28, x29, x30, x31, x32, x33, x34, x35, x36, x37, x38, x39, x40, x41, x6, by simp only [Act.put, List.setIfInBounds_toArray, List.set_cons_zero, List.set_cons_succ], HB, fun _ => rfl, fun _ => rfl, fun h => p26 (by simpa [upb] using h), fun h => p27 (by simpa [upb] using h), fun h => p28 (by simpa [upb] using h), fun h => p29 (by simpa [upb] using h), fun h => p30 (by simpa [upb] using h), fun h => p31 (by simpa [upb] using h), fun h => p32 (by simpa [upb] using h), fun h => p33 (by simpa [upb] using h), fun h => p34 (by simpa [upb] using h), fun h => p35 (by simpa [upb] using h), fun h => p36 (by simpa [upb] using h), fun h => p37 (by simpa [upb] using h), fun h => p38 (by simpa [upb] using h), fun h => p39 (by simpa [upb] using h), fun h => p40 (by simpa [upb] using h), fun h => p41 (by simpa [upb] using h), fun h => p6 (by simpa [upb] using h)⟩
  case op2 =>
    rintro bb _ w' ⟨x24, x25, x26, x27, x28, x29, x30, x31, x32, x33, x34, x35, x36, x37, x38, x39, x40, x41, x6, rfl, HB, p24, p25, p26, p27, p28, p29, p30, p31, p32, p33, p34, p35, p36, p37, p38, p39, p40, p41, p6⟩ hb hd K hK
    simp only [Act.put, List.setIfInBounds_toArray, List.set_cons_zero, List.set_cons_succ]
    rw [if_pos (by rfl)]
    go_simp
    exact hK _ _ ⟨x24, x25, .string sa, x27, x28, x29, x30, x31, x32, x33, x34, x35, x36, x37, x38, x39, x40, x41, x6, by simp only [Act.put, List.setIfInBounds_toArray, List.set_cons_zero, List.set_cons_succ], HB, fun h => p24 (by simpa [upb] using h), fun h => p25 (by simpa [upb] using h), fun _ => rfl, fun h => p27 (by simpa [upb] using h), fun h => p28 (by simpa [upb] using h), fun h => p29 (by simpa [upb] using h), fun h => p30 (by simpa [upb] using h), fun h => p31 (by simpa [upb] using h), fun h => p32 (by simpa [upb] using h), fun h => p33 (by simpa [upb] using h), fun h => p34 (by simpa [upb] using h), fun h => p35 (by simpa [upb] using h), fun h => p36 (by simpa [upb] using h), fun h => p37 (by simpa [upb] using h), fun h => p38 (by simpa [upb] using h), fun h => p39 (by simpa [upb] using h), fun h => p40 (by simpa [upb] using h), fun h => p41 (by simpa [upb] using h), fun h => p6 (by simpa [upb] using h)⟩
  case op3 =>
    rintro bb _ w' ⟨x24, x25, x26, x27, x28, x29, x30, x31, x32, x33, x34, x35, x36, x37, x38, x39, x40, x41, x6, rfl, HB, p24, p25, p26, p27, p28, p29, p30, p31, p32, p33, p34, p35, p36, p37, p38, p39, p40, p41, p6⟩ hb hd K hK
    simp only [Act.put, List.setIfInBounds_toArray, List.set_cons_zero, List.set_cons_succ]
    rw [if_pos (by rfl)]
    go_simp
    exact hK _ _ ⟨x24, x25, x26, .int .u8 kind, x28, x29, x30, x31, x32, x33, x34, x35, x36, x37, x38, x39, x40, x41, x6, by simp only [Act.put, List.setIfInBounds_toArray, List.set_cons_zero, List.set_cons_succ], HB, fun h => p24 (by simpa [upb] using h), fun h => p25 (by simpa [upb] using h), fun h => p26 (by simpa [upb] using h), fun _ => rfl, fun h => p28 (by simpa [upb] using h), fun h => p29 (by simpa [upb] using h), fun h => p30 (by simpa [upb] using h), fun h => p31 (by simpa [upb] using h), fun h => p32 (by simpa [upb] using h), fun h => p33 (by simpa [upb] using h), fun h => p34 (by simpa [upb] using h), fun h => p35 (by simpa [upb] using h), fun h => p36 (by simpa [upb] using h), fun h => p37 (by simpa [upb] using h), fun h => p38 (by simpa [upb] using h), fun h => p39 (by simpa [upb] using h), fun h => p40 (by simpa [upb] using h), fun h => p41 (by simpa [upb] using h), fun h => p6 (by simpa [upb] using h)⟩
  case op4 =>
    rintro bb _ w' ⟨x24, x25, x26, x27, x28, x29, x30, x31, x32, x33, x34, x35, x36, x37, x38, x39, x40, x41, x6, rfl, HB, p24, p25, p26, p27, p28, p29, p30, p31, p32, p33, p34, p35, p36, p37, p38, p39, p40, p41, p6⟩ hb hd K hK
    simp only [Act.put, List.setIfInBounds_toArray, List.set_cons_zero, List.set_cons_succ]
    rw [if_pos (by rfl)]
    go_simp
    exact hK _ _ ⟨x24, x25, x26, x27, .slice A1 d.length c1, x29, x30, x31, x32, x33, x34, x35, x36, x37, x38, x39, x40, x41, x6, by simp only [Act.put, List.setIfInBounds_toArray, List.set_cons_zero, List.set_cons_succ], HB, fun h => p24 (by simpa [upb] using h), fun h => p25 (by simpa [upb] using h), fun h => p26 (by simpa [upb] using h), fun h => p27 (by simpa [upb] using h), fun _ => rfl, fun h => p29 (by simpa [upb] using h), fun h => p30 (by simpa [upb] using h), fun h => p31 (by simpa [upb] using h), fun h => p32 (by simpa [upb] using h), fun h => p33 (by simpa [upb] using h), fun h => p34 (by simpa [upb] using h), fun h => p35 (by simpa [upb] using h), fun h => p36 (by simpa [upb] using h), fun h => p37 (by simpa [upb] using h), fun h => p38 (by simpa [upb] using h), fun h => p39 (by simpa [upb] using h), fun h => p40 (by simpa [upb] using h), fun h => p41 (by simpa [upb] using h), fun h => p6 (by simpa [upb] using h)⟩
  case op5 =>
    rintro bb _ w' ⟨x24, x25, x26, x27, x28, x29, x30, x31, x32, x33, x34, x35, x36, x37, x38, x39, x40, x41, x6, rfl, HB, p24, p25, p26, p27, p28, p29, p30, p31, p32, p33, p34, p35, p36, p37, p38, p39, p40, p41, p6⟩ hb hd K hK
    simp only [Act.put, List.setIfInBounds_toArray, List.set_cons_zero, List.set_cons_succ]
    obtain rfl := (p28 (hd 4 (by decide))).symm
    rw [if_pos (by rfl)]
    have k0 := Kd.C_string (P := Tryd.prog) (src := 22) (dst := 9) (c := c1) Tryd.underlying22 (by kernel_rfl) Tryd.underlying9 (Kd.C_below HC1.out HB)
    rw [← Hsd.out] at k0
    go_simp
    exact hK _ _ ⟨x24, x25, x26, x27, .slice A1 d.length c1, .string sd, x30, x31, x32, x33, x34, x35, x36, x37, x38, x39, x40, x41, x6, by simp only [Act.put, List.setIfInBounds_toArray, List.set_cons_zero, List.set_cons_succ], HB, fun h => p24 (by simpa [upb] using h), fun h => p25 (by simpa [upb] using h), fun h => p26 (by simpa [upb] using h), fun h => p27 (by simpa [upb] using h), fun _ => rfl, fun _ => rfl, fun h => p30 (by simpa [upb] using h), fun h => p31 (by simpa [upb] using h), fun h => p32 (by simpa [upb] using h), fun h => p33 (by simpa [upb] using h), fun h => p34 (by simpa [upb] using h), fun h => p35 (by simpa [upb] using h), fun h => p36 (by simpa [upb] using h), fun h => p37 (by simpa [upb] using h), fun h => p38 (by simpa [upb] using h), fun h => p39 (by simpa [upb] using h), fun h => p40 (by simpa [upb] using h), fun h => p41 (by simpa [upb] using h), fun h => p6 (by simpa [upb] using h)⟩
  case op6 =>
    rintro bb _ w' ⟨x24, x25, x26, x27, x28, x29, x30, x31, x32, x33, x34, x35, x36, x37, x38, x39, x40, x41, x6, rfl, HB, p24, p25, p26, p27, p28, p29, p30, p31, p32, p33, p34, p35, p36, p37, p38, p39, p40, p41, p6⟩ hb hd K hK
    simp only [Act.put, List.setIfInBounds_toArray, List.set_cons_zero, List.set_cons_succ]
    obtain rfl := (p27 (hd 3 (by decide))).symm
    obtain rfl := (p29 (hd 5 (by decide))).symm
    rw [if_pos (by rfl)]
    have hc := HRP.out w'
    go_simp
    refine hc.mono ?_; rintro e w3 ⟨rfl, b3⟩
    have HB2 := below_then HB HB.size b3
    try dsimp only
    exact hK _ _ ⟨x24, x25, x26, .int .u8 kind, x28, .string sd, .string sp, x31, x32, x33, x34, x35, x36, x37, x38, x39, x40, x41, x6, by simp only [Act.put, List.setIfInBounds_toArray, List.set_cons_zero, List.set_cons_succ], HB2, fun h => p24 (by simpa [upb] using h), fun h => p25 (by simpa [upb] using h), fun h => p26 (by simpa [upb] using h), fun _ => rfl, fun h => p28 (by simpa [upb] using h), fun _ => rfl, fun _ => rfl, fun h => p31 (by simpa [upb] using h), fun h => p32 (by simpa [upb] using h), fun h => p33 (by simpa [upb] using h), fun h => p34 (by simpa [upb] using h), fun h => p35 (by simpa [upb] using h), fun h => p36 (by simpa [upb] using h), fun h => p37 (by simpa [upb] using h), fun h => p38 (by simpa [upb] using h), fun h => p39 (by simpa [upb] using h), fun h => p40 (by simpa [upb] using h), fun h => p41 (by simpa [upb] using h), fun h => p6 (by simpa [upb] using h)⟩
  case op7 =>
    rintro bb _ w' ⟨x24, x25, x26, x27, x28, x29, x30, x31, x32, x33, x34, x35, x36, x37, x38, x39, x40, x41, x6, rfl, HB, p24, p25, p26, p27, p28, p29, p30, p31, p32, p33, p34, p35, p36, p37, p38, p39, p40, p41, p6⟩ hb hd K hK
    simp only [Act.put, List.setIfInBounds_toArray, List.set_cons_zero, List.set_cons_succ]
    obtain rfl := (p26 (hd 2 (by decide))).symm
    obtain rfl := (p30 (hd 6 (by decide))).symm
    rw [if_pos (by rfl)]
    go_simp
    exact hK _ _ ⟨x24, x25, .string sa, x27, x28, x29, .string sp, .string (sa ++ sp), x32, x33, x34, x35, x36, x37, x38, x39, x40, x41, x6, by simp only [Act.put, List.setIfInBounds_toArray, List.set_cons_zero, List.set_cons_succ], HB, fun h => p24 (by simpa [upb] using h), fun h => p25 (by simpa [upb] using h), fun _ => rfl, fun h => p27 (by simpa [upb] using h), fun h => p28 (by simpa [upb] using h), fun h => p29 (by simpa [upb] using h), fun _ => rfl, fun _ => rfl, fun h => p32 (by simpa [upb] using h), fun h => p33 (by simpa [upb] using h), fun h => p34 (by simpa [upb] using h), fun h => p35 (by simpa [upb] using h), fun h => p36 (by simpa [upb] using h), fun h => p37 (by simpa [upb] using h), fun h => p38 (by simpa [upb] using h), fun h => p39 (by simpa [upb] using h), fun h => p40 (by simpa [upb] using h), fun h => p41 (by simpa [upb] using h), fun h => p6 (by simpa [upb] using h)⟩
  case op8 =>
    rintro bb _ w' ⟨x24, x25, x26, x27, x28, x29, x30, x31, x32, x33, x34, x35, x36, x37, x38, x39, x40, x41, x6, rfl, HB, p24, p25, p26, p27, p28, p29, p30, p31, p32, p33, p34, p35, p36, p37, p38, p39, p40, p41, p6⟩ hb hd K hK
    simp only [Act.put, List.setIfInBounds_toArray, List.set_cons_zero, List.set_cons_succ]
    obtain rfl := (p25 (hd 1 (by decide))).symm
    obtain rfl := (p31 (hd 7 (by decide))).symm
    rw [if_pos (by rfl)]
    go_simp
    exact hK _ _ ⟨x24, .string (sa ++ sp), x26, x27, x28, x29, x30, .string (sa ++ sp), .bool true, x33, x34, x35, x36, x37, x38, x39, x40, x41, x6, by simp only [Act.put, List.setIfInBounds_toArray, List.set_cons_zero, List.set_cons_succ], HB, fun h => p24 (by simpa [upb] using h), fun _ => rfl, fun h => p26 (by simpa [upb] using h), fun h => p27 (by simpa [upb] using h), fun h => p28 (by simpa [upb] using h), fun h => p29 (by simpa [upb] using h), fun h => p30 (by simpa [upb] using h), fun _ => rfl, fun _ => rfl, fun h => p33 (by simpa [upb] using h), fun h => p34 (by simpa [upb] using h), fun h => p35 (by simpa [upb] using h), fun h => p36 (by simpa [upb] using h), fun h => p37 (by simpa [upb] using h), fun h => p38 (by simpa [upb] using h), fun h => p39 (by simpa [upb] using h), fun h => p40 (by simpa [upb] using h), fun h => p41 (by simpa [upb] using h), fun h => p6 (by simpa [upb] using h)⟩
  case op9 =>
    rintro bb _ w' ⟨x24, x25, x26, x27, x28, x29, x30, x31, x32, x33, x34, x35, x36, x37, x38, x39, x40, x41, x6, rfl, HB, p24, p25, p26, p27, p28, p29, p30, p31, p32, p33, p34, p35, p36, p37, p38, p39, p40, p41, p6⟩ hb hd K hK
    simp only [Act.put, List.setIfInBounds_toArray, List.set_cons_zero, List.set_cons_succ]
    obtain rfl := (p32 (hd 8 (by decide))).symm
    rw [if_pos (by rfl)]
    go_simp
    exact hK _ _ ⟨x24, x25, x26, x27, x28, x29, x30, x31, .bool true, .bool true, x34, x35, x36, x37, x38, x39, x40, x41, x6, by simp only [Act.put, List.setIfInBounds_toArray, List.set_cons_zero, List.set_cons_succ], HB, fun h => p24 (by simpa [upb] using h), fun h => p25 (by simpa [upb] using h), fun h => p26 (by simpa [upb] using h), fun h => p27 (by simpa [upb] using h), fun h => p28 (by simpa [upb] using h), fun h => p29 (by simpa [upb] using h), fun h => p30 (by simpa [upb] using h), fun h => p31 (by simpa [upb] using h), fun _ => rfl, fun _ => rfl, fun h => p34 (by simpa [upb] using h), fun h => p35 (by simpa [upb] using h), fun h => p36 (by simpa [upb] using h), fun h => p37 (by simpa [upb] using h), fun h => p38 (by simpa [upb] using h), fun h => p39 (by simpa [upb] using h), fun h => p40 (by simpa [upb] using h), fun h => p41 (by simpa [upb] using h), fun h => p6 (by simpa [upb] using h)⟩
  case op10 =>
    rintro bb _ w' ⟨x24, x25, x26, x27, x28, x29, x30, x31, x32, x33, x34, x35, x36, x37, x38, x39, x40, x41, x6, rfl, HB, p24, p25, p26, p27, p28, p29, p30, p31, p32, p33, p34, p35, p36, p37, p38, p39, p40, p41, p6⟩ hb hd K hK
    simp only [Act.put, List.setIfInBounds_toArray, List.set_cons_zero, List.set_cons_succ]
    obtain rfl := (p33 (hd 9 (by decide))).symm
    rw [if_pos (by rfl)]
    go_simp
    exact hK _ _ ⟨x24, x25, x26, x27, x28, x29, x30, x31, x32, .bool true, .slice A0 a.length c0, x35, x36, x37, x38, x39, x40, x41, x6, by simp only [Act.put, List.setIfInBounds_toArray, List.set_cons_zero, List.set_cons_succ], HB, fun h => p24 (by simpa [upb] using h), fun h => p25 (by simpa [upb] using h), fun h => p26 (by simpa [upb] using h), fun h => p27 (by simpa [upb] using h), fun h => p28 (by simpa [upb] using h), fun h => p29 (by simpa [upb] using h), fun h => p30 (by simpa [upb] using h), fun h => p31 (by simpa [upb] using h), fun h => p32 (by simpa [upb] using h), fun _ => rfl, fun _ => rfl, fun h => p35 (by simpa [upb] using h), fun h => p36 (by simpa [upb] using h), fun h => p37 (by simpa [upb] using h), fun h => p38 (by simpa [upb] using h), fun h => p39 (by simpa [upb] using h), fun h => p40 (by simpa [upb] using h), fun h => p41 (by simpa [upb] using h), fun h => p6 (by simpa [upb] using h)⟩
  case op11 =>
    rintro bb _ w' ⟨x24, x25, x26, x27, x28, x29, x30, x31, x32, x33, x34, x35, x36, x37, x38, x39, x40, x41, x6, rfl, HB, p24, p25, p26, p27, p28, p29, p30, p31, p32, p33, p34, p35, p36, p37, p38, p39, p40, p41, p6⟩ hb hd K hK
    simp only [Act.put, List.setIfInBounds_toArray, List.set_cons_zero, List.set_cons_succ]
    obtain rfl := (p33 (hd 9 (by decide))).symm
    obtain rfl := (p34 (hd 10 (by decide))).symm
    rw [if_pos (by rfl)]
    have k0 := Kd.C_string (P := Tryd.prog) (src := 22) (dst := 9) (c := c0) Tryd.underlying22 (by kernel_rfl) Tryd.underlying9 (Kd.C_below HC0.out HB)
    rw [← Hsa.out] at k0
    go_simp
    exact hK _ _ ⟨x24, x25, x26, x27, x28, x29, x30, x31, x32, .bool true, .slice A0 a.length c0, .string sa, x36, x37, x38, x39, x40, x41, x6, by simp only [Act.put, List.setIfInBounds_toArray, List.set_cons_zero, List.set_cons_succ], HB, fun h => p24 (by simpa [upb] using h), fun h => p25 (by simpa [upb] using h), fun h => p26 (by simpa [upb] using h), fun h => p27 (by simpa [upb] using h), fun h => p28 (by simpa [upb] using h), fun h => p29 (by simpa [upb] using h), fun h => p30 (by simpa [upb] using h), fun h => p31 (by simpa [upb] using h), fun h => p32 (by simpa [upb] using h), fun _ => rfl, fun _ => rfl, fun _ => rfl, fun h => p36 (by simpa [upb] using h), fun h => p37 (by simpa [upb] using h), fun h => p38 (by simpa [upb] using h), fun h => p39 (by simpa [upb] using h), fun h => p40 (by simpa [upb] using h), fun h => p41 (by simpa [upb] using h), fun h => p6 (by simpa [upb] using h)⟩
  case op12 =>
    rintro bb _ w' ⟨x24, x25, x26, x27, x28, x29, x30, x31, x32, x33, x34, x35, x36, x37, x38, x39, x40, x41, x6, rfl, HB, p24, p25, p26, p27, p28, p29, p30, p31, p32, p33, p34, p35, p36, p37, p38, p39, p40, p41, p6⟩ hb hd K hK
    simp only [Act.put, List.setIfInBounds_toArray, List.set_cons_zero, List.set_cons_succ]
    obtain rfl := (p33 (hd 9 (by decide))).symm
    rw [if_pos (by rfl)]
    go_simp
    exact hK _ _ ⟨x24, x25, x26, x27, x28, x29, x30, x31, x32, .bool true, x34, x35, .string sa, x37, x38, x39, x40, x41, x6, by simp only [Act.put, List.setIfInBounds_toArray, List.set_cons_zero, List.set_cons_succ], HB, fun h => p24 (by simpa [upb] using h), fun h => p25 (by simpa [upb] using h), fun h => p26 (by simpa [upb] using h), fun h => p27 (by simpa [upb] using h), fun h => p28 (by simpa [upb] using h), fun h => p29 (by simpa [upb] using h), fun h => p30 (by simpa [upb] using h), fun h => p31 (by simpa [upb] using h), fun h => p32 (by simpa [upb] using h), fun _ => rfl, fun h => p34 (by simpa [upb] using h), fun h => p35 (by simpa [upb] using h), fun _ => rfl, fun h => p37 (by simpa [upb] using h), fun h => p38 (by simpa [upb] using h), fun h => p39 (by simpa [upb] using h), fun h => p40 (by simpa [upb] using h), fun h => p41 (by simpa [upb] using h), fun h => p6 (by simpa [upb] using h)⟩
  case op13 =>
    rintro bb _ w' ⟨x24, x25, x26, x27, x28, x29, x30, x31, x32, x33, x34, x35, x36, x37, x38, x39, x40, x41, x6, rfl, HB, p24, p25, p26, p27, p28, p29, p30, p31, p32, p33, p34, p35, p36, p37, p38, p39, p40, p41, p6⟩ hb hd K hK
    simp only [Act.put, List.setIfInBounds_toArray, List.set_cons_zero, List.set_cons_succ]
    obtain rfl := (p33 (hd 9 (by decide))).symm
    obtain rfl := (p35 (hd 11 (by decide))).symm
    obtain rfl := (p36 (hd 12 (by decide))).symm
    rw [if_pos (by rfl)]
    go_simp
    exact hK _ _ ⟨x24, x25, x26, x27, x28, x29, x30, x31, x32, .bool true, x34, .string sa, .string sa, .bool true, x38, x39, x40, x41, x6, by simp only [Act.put, List.setIfInBounds_toArray, List.set_cons_zero, List.set_cons_succ], HB, fun h => p24 (by simpa [upb] using h), fun h => p25 (by simpa [upb] using h), fun h => p26 (by simpa [upb] using h), fun h => p27 (by simpa [upb] using h), fun h => p28 (by simpa [upb] using h), fun h => p29 (by simpa [upb] using h), fun h => p30 (by simpa [upb] using h), fun h => p31 (by simpa [upb] using h), fun h => p32 (by simpa [upb] using h), fun _ => rfl, fun h => p34 (by simpa [upb] using h), fun _ => rfl, fun _ => rfl, fun _ => rfl, fun h => p38 (by simpa [upb] using h), fun h => p39 (by simpa [upb] using h), fun h => p40 (by simpa [upb] using h), fun h => p41 (by simpa [upb] using h), fun h => p6 (by simpa [upb] using h)⟩
  case op14 =>
    rintro bb _ w' ⟨x24, x25, x26, x27, x28, x29, x30, x31, x32, x33, x34, x35, x36, x37, x38, x39, x40, x41, x6, rfl, HB, p24, p25, p26, p27, p28, p29, p30, p31, p32, p33, p34, p35, p36, p37, p38, p39, p40, p41, p6⟩ hb hd K hK
    simp only [Act.put, List.setIfInBounds_toArray, List.set_cons_zero, List.set_cons_succ]
    obtain rfl := (p33 (hd 9 (by decide))).symm
    obtain rfl := (p37 (hd 13 (by decide))).symm
    rw [if_pos (by rfl)]
    go_simp
    exact hK _ _ ⟨x24, x25, x26, x27, x28, x29, x30, x31, x32, .bool true, x34, x35, x36, .bool true, .bool true, x39, x40, x41, x6, by simp only [Act.put, List.setIfInBounds_toArray, List.set_cons_zero, List.set_cons_succ], HB, fun h => p24 (by simpa [upb] using h), fun h => p25 (by simpa [upb] using h), fun h => p26 (by simpa [upb] using h), fun h => p27 (by simpa [upb] using h), fun h => p28 (by simpa [upb] using h), fun h => p29 (by simpa [upb] using h), fun h => p30 (by simpa [upb] using h), fun h => p31 (by simpa [upb] using h), fun h => p32 (by simpa [upb] using h), fun _ => rfl, fun h => p34 (by simpa [upb] using h), fun h => p35 (by simpa [upb] using h), fun h => p36 (by simpa [upb] using h), fun _ => rfl, fun _ => rfl, fun h => p39 (by simpa [upb] using h), fun h => p40 (by simpa [upb] using h), fun h => p41 (by simpa [upb] using h), fun h => p6 (by simpa [upb] using h)⟩
  case op15 =>
    rintro bb _ w' ⟨x24, x25, x26, x27, x28, x29, x30, x31, x32, x33, x34, x35, x36, x37, x38, x39, x40, x41, x6, rfl, HB, p24, p25, p26, p27, p28, p29, p30, p31, p32, p33, p34, p35, p36, p37, p38, p39, p40, p41, p6⟩ hb hd K hK
    simp only [Act.put, List.setIfInBounds_toArray, List.set_cons_zero, List.set_cons_succ]
    obtain rfl := (p38 (hd 14 (by decide))).symm
    rw [if_pos (by rfl)]
    go_simp
    exact hK _ _ ⟨x24, x25, x26, x27, x28, x29, x30, x31, x32, x33, x34, x35, x36, x37, .bool true, .bool true, x40, x41, x6, by simp only [Act.put, List.setIfInBounds_toArray, List.set_cons_zero, List.set_cons_succ], HB, fun h => p24 (by simpa [upb] using h), fun h => p25 (by simpa [upb] using h), fun h => p26 (by simpa [upb] using h), fun h => p27 (by simpa [upb] using h), fun h => p28 (by simpa [upb] using h), fun h => p29 (by simpa [upb] using h), fun h => p30 (by simpa [upb] using h), fun h => p31 (by simpa [upb] using h), fun h => p32 (by simpa [upb] using h), fun h => p33 (by simpa [upb] using h), fun h => p34 (by simpa [upb] using h), fun h => p35 (by simpa [upb] using h), fun h => p36 (by simpa [upb] using h), fun h => p37 (by simpa [upb] using h), fun _ => rfl, fun _ => rfl, fun h => p40 (by simpa [upb] using h), fun h => p41 (by simpa [upb] using h), fun h => p6 (by simpa [upb] using h)⟩
  case op16 =>
    rintro bb _ w' ⟨x24, x25, x26, x27, x28, x29, x30, x31, x32, x33, x34, x35, x36, x37, x38, x39, x40, x41, x6, rfl, HB, p24, p25, p26, p27, p28, p29, p30, p31, p32, p33, p34, p35, p36, p37, p38, p39, p40, p41, p6⟩ hb hd K hK
    simp only [Act.put, List.setIfInBounds_toArray, List.set_cons_zero, List.set_cons_succ]
    obtain rfl := (p39 (hd 15 (by decide))).symm
    rw [if_pos (by rfl)]
    have hc := ck_wakes_calls w' (HT1.out.keep HB)
    go_simp
    refine hc.mono ?_; rintro e w3 ⟨rfl, b3⟩
    have HB2 := below_then HB HB.size b3
    try dsimp only
    exact hK _ _ ⟨x24, x25, x26, x27, x28, x29, x30, x31, x32, x33, x34, x35, x36, x37, x38, .bool true, .bool true, x41, x6, by simp only [Act.put, List.setIfInBounds_toArray, List.set_cons_zero, List.set_cons_succ], HB2, fun h => p24 (by simpa [upb] using h), fun h => p25 (by simpa [upb] using h), fun h => p26 (by simpa [upb] using h), fun h => p27 (by simpa [upb] using h), fun h => p28 (by simpa [upb] using h), fun h => p29 (by simpa [upb] using h), fun h => p30 (by simpa [upb] using h), fun h => p31 (by simpa [upb] using h), fun h => p32 (by simpa [upb] using h), fun h => p33 (by simpa [upb] using h), fun h => p34 (by simpa [upb] using h), fun h => p35 (by simpa [upb] using h), fun h => p36 (by simpa [upb] using h), fun h => p37 (by simpa [upb] using h), fun h => p38 (by simpa [upb] using h), fun _ => rfl, fun _ => rfl, fun h => p41 (by simpa [upb] using h), fun h => p6 (by simpa [upb] using h)⟩
  case op17 =>
    rintro bb _ w' ⟨x24, x25, x26, x27, x28, x29, x30, x31, x32, x33, x34, x35, x36, x37, x38, x39, x40, x41, x6, rfl, HB, p24, p25, p26, p27, p28, p29, p30, p31, p32, p33, p34, p35, p36, p37, p38, p39, p40, p41, p6⟩ hb hd K hK
    simp only [Act.put, List.setIfInBounds_toArray, List.set_cons_zero, List.set_cons_succ]
    obtain rfl := (p39 (hd 15 (by decide))).symm
    obtain rfl := (p40 (hd 16 (by decide))).symm
    rw [if_pos (by rfl)]
    go_simp
    exact hK _ _ ⟨x24, x25, x26, x27, x28, x29, x30, x31, x32, x33, x34, x35, x36, x37, x38, .bool true, .bool true, .bool true, x6, by simp only [Act.put, List.setIfInBounds_toArray, List.set_cons_zero, List.set_cons_succ], HB, fun h => p24 (by simpa [upb] using h), fun h => p25 (by simpa [upb] using h), fun h => p26 (by simpa [upb] using h), fun h => p27 (by simpa [upb] using h), fun h => p28 (by simpa [upb] using h), fun h => p29 (by simpa [upb] using h), fun h => p30 (by simpa [upb] using h), fun h => p31 (by simpa [upb] using h), fun h => p32 (by simpa [upb] using h), fun h => p33 (by simpa [upb] using h), fun h => p34 (by simpa [upb] using h), fun h => p35 (by simpa [upb] using h), fun h => p36 (by simpa [upb] using h), fun h => p37 (by simpa [upb] using h), fun h => p38 (by simpa [upb] using h), fun _ => rfl, fun _ => rfl, fun _ => rfl, fun h => p6 (by simpa [upb] using h)⟩
  case op18 =>
    rintro bb _ w' ⟨x24, x25, x26, x27, x28, x29, x30, x31, x32, x33, x34, x35, x36, x37, x38, x39, x40, x41, x6, rfl, HB, p24, p25, p26, p27, p28, p29, p30, p31, p32, p33, p34, p35, p36, p37, p38, p39, p40, p41, p6⟩ hb hd K hK
    simp only [Act.put, List.setIfInBounds_toArray, List.set_cons_zero, List.set_cons_succ]
    obtain rfl := (p41 (hd 17 (by decide))).symm
    rw [if_pos (by rfl)]
    go_simp
    exact hK _ _ ⟨x24, x25, x26, x27, x28, x29, x30, x31, x32, x33, x34, x35, x36, x37, x38, x39, x40, .bool true, .bool true, by simp only [Act.put, List.setIfInBounds_toArray, List.set_cons_zero, List.set_cons_succ], HB, fun h => p24 (by simpa [upb] using h), fun h => p25 (by simpa [upb] using h), fun h => p26 (by simpa [upb] using h), fun h => p27 (by simpa [upb] using h), fun h => p28 (by simpa [upb] using h), fun h => p29 (by simpa [upb] using h), fun h => p30 (by simpa [upb] using h), fun h => p31 (by simpa [upb] using h), fun h => p32 (by simpa [upb] using h), fun h => p33 (by simpa [upb] using h), fun h => p34 (by simpa [upb] using h), fun h => p35 (by simpa [upb] using h), fun h => p36 (by simpa [upb] using h), fun h => p37 (by simpa [upb] using h), fun h => p38 (by simpa [upb] using h), fun h => p39 (by simpa [upb] using h), fun h => p40 (by simpa [upb] using h), fun _ => rfl, fun _ => rfl⟩
  case done =>
    rintro bb _ w' hb ⟨x24, x25, x26, x27, x28, x29, x30, x31, x32, x33, x34, x35, x36, x37, x38, x39, x40, x41, x6, rfl, HB, p24, p25, p26, p27, p28, p29, p30, p31, p32, p33, p34, p35, p36, p37, p38, p39, p40, p41, p6⟩
    obtain rfl := (p24 (hb 0 (by decide))).symm
    obtain rfl := (p25 (hb 1 (by decide))).symm
    obtain rfl := (p26 (hb 2 (by decide))).symm
    obtain rfl := (p27 (hb 3 (by decide))).symm
    obtain rfl := (p28 (hb 4 (by decide))).symm
    obtain rfl := (p29 (hb 5 (by decide))).symm
    obtain rfl := (p30 (hb 6 (by decide))).symm
    obtain rfl := (p31 (hb 7 (by decide))).symm
    obtain rfl := (p32 (hb 8 (by decide))).symm
    obtain rfl := (p33 (hb 9 (by decide))).symm
    obtain rfl := (p34 (hb 10 (by decide))).symm
    obtain rfl := (p35 (hb 11 (by decide))).symm
    obtain rfl := (p36 (hb 12 (by decide))).symm
    obtain rfl := (p37 (hb 13 (by decide))).symm
    obtain rfl := (p38 (hb 14 (by decide))).symm
    obtain rfl := (p39 (hb 15 (by decide))).symm
    obtain rfl := (p40 (hb 16 (by decide))).symm
    obtain rfl := (p41 (hb 17 (by decide))).symm
    obtain rfl := (p6 (hb 18 (by decide))).symm
    simp only [Act.put, List.setIfInBounds_toArray, List.set_cons_zero, List.set_cons_succ]
    clear hb p24 p25 p26 p27 p28 p29 p30 p31 p32 p33 p34 p35 p36 p37 p38 p39 p40 p41 p6
    go_wp2_with fail
    go_ret
    exact ⟨rfl, below_then HB1.out HB1.out.size HB⟩
end Go.Proofs.YtigcgdhihaibbaaDoor.PLz

namespace Go.Proofs.YtigcgdhihaibbaaDoor.Pure
open Go.RowKit Go.Proofs.YtigcgdhihaibbaaDoor.PRef Go.Proofs.YtigcgdhihaibbaaDoor.PLz Go.Proofs.YtigcgdhihaibbaaDoorW.PrintWords Go.Proofs.YtigcgdhihaibbaaDoorW.PrintLast
set_option linter.unusedVariables false
namespace LzP
theorem match_ok {b : List Int} (hb : IsB b) (hl : b.length ≤ 2000) {p at_ : Nat} (hp : p < at_) (hat : at_ ≤ b.length) : ∀ (f n : Nat), n + f = 67 → n ≤ 66 →
    Ev (fun k => rematchref04_match.l0 k (strOfNums b) p at_ n) (lz_same b p at_ f n : Int) := by
  intro f
  induction f with
  | zero => intro n h h2; omega
  | succ f ih =>
    intro n h h2
    have w1 : wrap64 ((at_ : Int) + n) = ((at_ + n : Nat) : Int) := by unfold wrap64; omega
    have w2 : wrap64 ((p : Int) + n) = ((p + n : Nat) : Int) := by unfold wrap64; omega
    have w3 : wrap64 ((n : Int) + 1) = ((n + 1 : Nat) : Int) := by unfold wrap64; omega
    by_cases h66 : n < 66
    · by_cases hlen : at_ + n < b.length
      · have e1 : bt (strOfNums b) ((p + n : Nat) : Int) = b.getD (p + n) 0 := str_bt hb _ (by omega) (by omega)
        have e2 : bt (strOfNums b) ((at_ + n : Nat) : Int) = b.getD (at_ + n) 0 := str_bt hb _ (by omega) (by omega)
        have c1 : (n : Int) < 66 := by omega
        have c2 : ((at_ + n : Nat) : Int) < (b.length : Int) := by omega
        have c3 : (0 : Int) ≤ ((p + n : Nat) : Int) := by omega
        have c4 : ((p + n : Nat) : Int) < (b.length : Int) := by omega
        have c5 : (0 : Int) ≤ ((at_ + n : Nat) : Int) := by omega
        by_cases he : b.getD (p + n) 0 = b.getD (at_ + n) 0
        · rw [lz_same_next ⟨h66, hlen, he⟩]
          refine Ev.step (fun k => ?_) (ih (n + 1) (by omega) (by omega))
          rw [rematchref04_match.l0, w1, w2, w3, str_size, if_pos c1, if_pos c2, if_pos c3, if_pos c4, if_pos c5, e1, e2, if_pos he]
        · rw [lz_same_stop (fun h => he h.2.2)]
          refine Ev.step (f := fun _ => some (n : Int)) (fun k => ?_) (Ev.now _)
          rw [rematchref04_match.l0, w1, w2, w3, str_size, if_pos c1, if_pos c2, if_pos c3, if_pos c4, if_pos c5, e1, e2, if_neg he]
      · rw [lz_same_stop (fun h => hlen h.2.1)]
        refine Ev.step (f := fun _ => some (n : Int)) (fun k => ?_) (Ev.now _)
        rw [rematchref04_match.l0, w1, str_size, if_pos (by omega), if_neg (by omega)]
    · rw [lz_same_stop (fun h => h66 h.1)]
      refine Ev.step (f := fun _ => some (n : Int)) (fun k => ?_) (Ev.now _)
      rw [rematchref04_match.l0, if_neg (by omega)]
/-- the reference's loop over earlier places, in plain words -/
def rb (b : List Int) (at_ : Nat) : Nat → Nat → Nat → Nat → Nat × Nat
  | 0, q, n, _ => (q, n)
  | x + 1, q, n, c => if 4096 < at_ - x ∨ 16 ≤ c then (q, n) else
      if lz_same b x at_ 67 0 < 3 then rb b at_ x q n c else
      if n < lz_same b x at_ 67 0 ∧ (3 < lz_same b x at_ 67 0 ∨ at_ - x ≤ 128) then rb b at_ x x (lz_same b x at_ 67 0) (c + 1) else rb b at_ x q n (c + 1)
theorem best_l0 {b : List Int} (hb : IsB b) (hl : b.length ≤ 2000) {at_ : Nat} (hat : at_ ≤ b.length) : ∀ (x q n c : Nat), x ≤ at_ → c ≤ 16 → n ≤ 66 →
    Ev (fun k => rematchref04_best.l0 k (strOfNums b) at_ q n c ((x : Int) - 1)) (((rb b at_ x q n c).1 : Int), ((rb b at_ x q n c).2 : Int)) := by
  intro x
  induction x with
  | zero =>
    intro q n c _ _ _
    refine Ev.step (f := fun k => rematchref04_best.j1 k (strOfNums b) at_ q n c (((0 : Nat) : Int) - 1) false) (fun k => ?_) (Ev.step (f := fun _ => some ((q : Int), (n : Int))) (fun k => ?_) (Ev.now _))
    · rw [rematchref04_best.l0, if_neg (by omega)]
    · rw [rematchref04_best.j1, if_neg (by decide)]
  | succ x ih =>
    intro q n c hx hc hn
    have w0 : ((x + 1 : Nat) : Int) - 1 = (x : Int) := by omega
    have w1 : wrap64 ((at_ : Int) - x) = ((at_ - x : Nat) : Int) := by unfold wrap64; omega
    have w2 : wrap64 ((x : Int) - 1) = (x : Int) - 1 := by unfold wrap64; omega
    have w3 : wrap64 ((c : Int) + 1) = ((c + 1 : Nat) : Int) := by unfold wrap64; omega
    rw [w0]
    have stop : Ev (fun k => rematchref04_best.j1 k (strOfNums b) at_ q n c x false) ((q : Int), (n : Int)) :=
      Ev.step (f := fun _ => some ((q : Int), (n : Int))) (fun k => by rw [rematchref04_best.j1, if_neg (by decide)]) (Ev.now _)
    rw [rb]
    by_cases h1 : 4096 < at_ - x
    · rw [if_pos (.inl h1)]
      refine Ev.step (fun k => ?_) stop
      rw [rematchref04_best.l0, if_pos (by omega), w1, if_neg (by omega)]
    · by_cases h2 : 16 ≤ c
      · rw [if_pos (.inr h2)]
        refine Ev.step (fun k => ?_) stop
        rw [rematchref04_best.l0, if_pos (by omega), w1, if_pos (by omega), decide_eq_false (by omega)]
      · rw [if_neg (by omega)]
        have hm := match_ok hb hl (p := x) (at_ := at_) (by omega) hat 67 0 (by omega) (by omega)
        have hmf : Ev (fun k => rematchref04_match.f k (strOfNums b) (x : Int) at_) ((lz_same b x at_ 67 0 : Nat) : Int) := hm
        have hml := lz_same_le b x at_ 67 0 (by omega)
        obtain ⟨m, hme⟩ : ∃ m, lz_same b x at_ 67 0 = m := ⟨_, rfl⟩
        rw [hme] at hmf hml ⊢
        have go : ∀ r, Ev (fun k => if (m : Int) < 3 then (rematchref04_best.l0 k (strOfNums b) at_ q n c ((x : Int) - 1)) else (if (m : Int) > n then (if (m : Int) > 3 then (rematchref04_best.l0 k (strOfNums b) at_ x m ((c + 1 : Nat) : Int) ((x : Int) - 1)) else (if ((at_ - x : Nat) : Int) ≤ 128 then (rematchref04_best.l0 k (strOfNums b) at_ x m ((c + 1 : Nat) : Int) ((x : Int) - 1)) else (rematchref04_best.l0 k (strOfNums b) at_ q n ((c + 1 : Nat) : Int) ((x : Int) - 1)))) else (rematchref04_best.l0 k (strOfNums b) at_ q n ((c + 1 : Nat) : Int) ((x : Int) - 1)))) r →
            Ev (fun k => rematchref04_best.l0 k (strOfNums b) at_ q n c x) r := by
          intro r hr
          refine Ev.step (f := fun k => rematchref04_best.j1 k (strOfNums b) at_ q n c x true) (fun k => ?_) (Ev.step (f := fun k => (rematchref04_match.f k (strOfNums b) x at_).bind fun t109 => (if t109 < 3 then (rematchref04_best.l0 k (strOfNums b) at_ q n c ((x : Int) - 1)) else (if t109 > n then (if t109 > 3 then (rematchref04_best.l0 k (strOfNums b) at_ x t109 ((c + 1 : Nat) : Int) ((x : Int) - 1)) else (if ((at_ - x : Nat) : Int) ≤ 128 then (rematchref04_best.l0 k (strOfNums b) at_ x t109 ((c + 1 : Nat) : Int) ((x : Int) - 1)) else (rematchref04_best.l0 k (strOfNums b) at_ q n ((c + 1 : Nat) : Int) ((x : Int) - 1)))) else (rematchref04_best.l0 k (strOfNums b) at_ q n ((c + 1 : Nat) : Int) ((x : Int) - 1))))) (fun k => ?_) ?_)
          · rw [rematchref04_best.l0, if_pos (by omega), w1, if_pos (by omega), decide_eq_true (by omega)]
          · rw [rematchref04_best.j1, if_pos rfl, w1, w2, w3]
          · exact Ev.bind hmf hr
        refine go _ ?_
        by_cases h3 : m < 3
        · rw [if_pos h3]
          simp only [if_pos (show (m : Int) < 3 by omega)]
          exact ih q n c (by omega) hc hn
        · rw [if_neg h3]
          simp only [if_neg (show ¬ (m : Int) < 3 by omega)]
          by_cases h4 : n < m
          · simp only [if_pos (show (m : Int) > n by omega)]
            by_cases h5 : 3 < m
            · rw [if_pos ⟨h4, .inl h5⟩]
              simp only [if_pos (show (m : Int) > 3 by omega)]
              exact ih x m (c + 1) (by omega) (by omega) hml
            · simp only [if_neg (show ¬ (m : Int) > 3 by omega)]
              by_cases h6 : at_ - x ≤ 128
              · rw [if_pos ⟨h4, .inr h6⟩]
                simp only [if_pos (show ((at_ - x : Nat) : Int) ≤ 128 by omega)]
                exact ih x m (c + 1) (by omega) (by omega) hml
              · rw [if_neg (by omega)]
                simp only [if_neg (show ¬ ((at_ - x : Nat) : Int) ≤ 128 by omega)]
                exact ih q n (c + 1) (by omega) (by omega) hn
          · rw [if_neg (by omega)]
            simp only [if_neg (show ¬ (m : Int) > n by omega)]
            exact ih q n (c + 1) (by omega) (by omega) hn
/-- places with the bytes k ahead of place x -/
theorem poss_succ {b : List Int} {at_ x : Nat} {k : Int × Int × Int} : (lz_poss b (x + 1) k) = if x + 3 ≤ b.length ∧ lz_key b x = k then lz_poss b x k ++ [x] else lz_poss b x k := lz_poss_next k
theorem poss_get {b : List Int} {k : Int × Int × Int} {x : Nat} (h : x + 3 ≤ b.length ∧ lz_key b x = k) : ∀ at_, x < at_ → (lz_poss b at_ k).getD (lz_poss b x k).length 0 = x ∧ (lz_poss b x k).length < (lz_poss b at_ k).length := by
  intro at_
  induction at_ with
  | zero => intro h2; omega
  | succ at_ ih =>
    intro h2
    rw [poss_succ (at_ := at_)]
    by_cases hx : x = at_
    · subst hx
      rw [if_pos h]
      constructor
      · rw [List.getD_eq_getElem?_getD, List.getElem?_append_right (Nat.le_refl _), Nat.sub_self]; rfl
      · simp
    · obtain ⟨i1, i2⟩ := ih (by omega)
      split
      · constructor
        · rw [List.getD_eq_getElem?_getD, List.getElem?_append_left i2, ← List.getD_eq_getElem?_getD]; exact i1
        · simp; omega
      · exact ⟨i1, i2⟩
theorem poss_mono {b : List Int} {k : Int × Int × Int} {x at_ : Nat} (h : x ≤ at_) : (lz_poss b x k).length ≤ (lz_poss b at_ k).length := by
  induction at_ with
  | zero => have : x = 0 := by omega
            subst this; exact Nat.le_refl _
  | succ at_ ih =>
    by_cases hx : x = at_ + 1
    · subst hx; exact Nat.le_refl _
    · have := ih (by omega)
      rw [poss_succ (at_ := at_)]
      split
      · simp; omega
      · exact this
theorem same_three {b : List Int} {x at_ : Nat} (hx : x < at_) (h3 : at_ + 3 ≤ b.length) : lz_same b x at_ 67 0 < 3 ↔ ¬ lz_key b x = lz_key b at_ := by
  constructor
  · intro h e
    have := lz_same_three h3 e
    omega
  · intro h
    by_cases hs : lz_same b x at_ 67 0 < 3
    · exact hs
    · exfalso
      obtain ⟨_, _, s⟩ := lz_same_spec b x at_ 67 0 (by omega) (fun i hi => by omega)
      refine h ?_
      unfold lz_key
      have s0 := s 0 (by omega)
      have s1 := s 1 (by omega)
      have s2 := s 2 (by omega)
      simp only [Nat.add_zero] at s0
      rw [s0, s1, s2]
theorem bestF_end {b : List Int} {at_ : Nat} {l : List Nat} {i q n : Nat} (h : i = 0 ∨ ∃ j, i = j + 1 ∧ (4096 < at_ - l.getD j 0 ∨ 16 < l.length - j)) : lz_bestF b at_ l i q n = (q, n) := by
  rcases h with rfl | ⟨j, rfl, h⟩
  · rfl
  · exact lz_best_stop h
theorem rb_best {b : List Int} {at_ : Nat} (h3 : at_ + 3 ≤ b.length) : ∀ (x q n c : Nat), x ≤ at_ → c + (lz_poss b x (lz_key b at_)).length = (lz_poss b at_ (lz_key b at_)).length →
    rb b at_ x q n c = lz_bestF b at_ (lz_poss b at_ (lz_key b at_)) (lz_poss b x (lz_key b at_)).length q n := by
  intro x
  induction x with
  | zero => intro q n c _ _; rfl
  | succ x ih =>
    intro q n c hx hc
    have hlt : x < at_ := by omega
    rw [rb, poss_succ (at_ := at_)]
    rw [poss_succ (at_ := at_)] at hc
    by_cases hk : lz_key b x = lz_key b at_
    · have hin : x + 3 ≤ b.length ∧ lz_key b x = lz_key b at_ := ⟨by omega, hk⟩
      obtain ⟨g1, g2⟩ := poss_get hin at_ hlt
      rw [if_pos hin] at hc ⊢
      rw [List.length_append, List.length_singleton] at hc ⊢
      have hs : ¬ lz_same b x at_ 67 0 < 3 := fun e => ((same_three hlt h3).1 e) hk
      by_cases h1 : 4096 < at_ - x ∨ 16 ≤ c
      · rw [if_pos h1, lz_best_stop (by rw [g1]; omega)]
      · rw [if_neg h1, if_neg hs]
        by_cases h2 : n < lz_same b x at_ 67 0 ∧ (3 < lz_same b x at_ 67 0 ∨ at_ - x ≤ 128)
        · rw [if_pos h2, lz_best_take (by rw [g1]; omega) (by rw [g1]; exact h2), g1]
          exact ih _ _ _ (by omega) (by omega)
        · rw [if_neg h2, lz_best_pass (by rw [g1]; omega) (by rw [g1]; exact h2)]
          exact ih _ _ _ (by omega) (by omega)
    · have hno : ¬ (x + 3 ≤ b.length ∧ lz_key b x = lz_key b at_) := fun e => hk e.2
      rw [if_neg hno] at hc ⊢
      have hs := (same_three hlt h3).2 hk
      by_cases h1 : 4096 < at_ - x ∨ 16 ≤ c
      · rw [if_pos h1]
        refine (bestF_end ?_).symm
        by_cases h0 : (lz_poss b x (lz_key b at_)).length = 0
        · exact .inl h0
        · right
          obtain ⟨j, hj⟩ : ∃ j, (lz_poss b x (lz_key b at_)).length = j + 1 := ⟨(lz_poss b x (lz_key b at_)).length - 1, by omega⟩
          refine ⟨j, hj, ?_⟩
          rcases h1 with h1 | h1
          · left
            -- the place at j of the whole list is below x
            have hjx : (lz_poss b at_ (lz_key b at_)).getD j 0 < x := by
              have pre : ∀ y, x ≤ y → (lz_poss b y (lz_key b at_)).getD j 0 = (lz_poss b x (lz_key b at_)).getD j 0 := by
                intro y
                induction y with
                | zero => intro hy; have : x = 0 := by omega
                          rw [this]
                | succ y ihy =>
                  intro hy
                  by_cases e : x = y + 1
                  · rw [e]
                  · rw [poss_succ (at_ := at_)]
                    split
                    · have hm := poss_mono (b := b) (k := lz_key b at_) (show x ≤ y by omega)
                      rw [List.getD_eq_getElem?_getD, List.getElem?_append_left (by omega), ← List.getD_eq_getElem?_getD]
                      exact ihy (by omega)
                    · exact ihy (by omega)
              rw [pre at_ (by omega)]
              exact lz_poss_lt (by omega)
            omega
          · right; omega
      · rw [if_neg h1, if_pos hs]
        exact ih _ _ _ (by omega) hc
theorem rb_none {b : List Int} {at_ : Nat} (h3 : ¬ at_ + 3 ≤ b.length) (hat : at_ ≤ b.length) : ∀ (x q n c : Nat), rb b at_ x q n c = (q, n) := by
  intro x
  induction x with
  | zero => intro q n c; rfl
  | succ x ih =>
    intro q n c
    rw [rb]
    have hs : lz_same b x at_ 67 0 < 3 := by
      have := (lz_same_spec b x at_ 67 0 (by omega) (fun i hi => by omega)).2.1
      omega
    split
    · rfl
    · first | exact ih q n c | (rw [if_pos hs]; exact ih q n c)
theorem best_ok {b : List Int} (hb : IsB b) (hl : b.length ≤ 2000) {at_ : Nat} (hat : at_ ≤ b.length) : Ev (fun k => rematchref04_best.f k (strOfNums b) at_) (((lz_best b at_).1 : Int), ((lz_best b at_).2 : Int)) := by
  have h := best_l0 hb hl hat at_ 0 0 0 (Nat.le_refl _) (by omega) (by omega)
  have e : rb b at_ at_ 0 0 0 = lz_best b at_ := by
    unfold lz_best
    by_cases h3 : at_ + 3 ≤ b.length
    · rw [if_pos h3, rb_best h3 at_ 0 0 0 (Nat.le_refl _) (by omega)]
    · rw [if_neg h3, rb_none h3 hat]
  rw [e] at h
  unfold rematchref04_best.f
  rw [show wrap64 ((at_ : Int) - 1) = (at_ : Int) - 1 by unfold wrap64; omega]
  exact h
theorem run_ok : ∀ (f : Nat) (l out : List Int), l.length ≤ f → l.length ≤ 2000 → out.length + 2 * l.length ≤ 20000 → Ev (fun k => rematchref04_run.l0 k (strOfNums l) (strOfNums out)) (strOfNums (out ++ lz_run f l)) := by
  intro f
  induction f with
  | zero =>
    intro l out h _ _
    have : l = [] := List.length_eq_zero_iff.1 (by omega)
    subst this
    refine Ev.step (f := fun _ => some (strOfNums out)) (fun k => ?_) (by simpa [lz_run] using Ev.now (strOfNums out))
    rw [rematchref04_run.l0, if_neg (by rw [str_size]; simp)]
  | succ f ih =>
    intro l out h hl ho
    by_cases h0 : l = []
    · subst h0
      refine Ev.step (f := fun _ => some (strOfNums out)) (fun k => ?_) (by simpa [lz_run] using Ev.now (strOfNums out))
      rw [rematchref04_run.l0, if_neg (by rw [str_size]; simp)]
    · have hp : 0 < l.length := by cases l with | nil => exact absurd rfl h0 | cons _ _ => simp
      have stepx : ∀ (n : Nat), (n : Int) = mn 64 (l.length : Int) → n ≤ l.length → 0 < n → n ≤ 64 → ∀ r, Ev (fun k => rematchref04_run.l0 k (strOfNums (l.drop n)) (strOfNums (out ++ [2 * ((n : Int) - 1)] ++ l.take n))) r → Ev (fun k => rematchref04_run.l0 k (strOfNums l) (strOfNums out)) r := by
        intro n hn hnl hn0 hn64 r hr
        refine Ev.step (fun k => ?_) hr
        have c1 : (out.length + [2 * ((n : Int) - 1)].length : Nat) ≤ 9223372036854775807 := by simp; omega
        have c2 : (0 : Int) ≤ (n : Int) := by omega
        have c3 : (n : Int) ≤ (l.length : Int) := by omega
        have ht : ((l.drop 0).take (n - 0)).length ≤ 2000 := by rw [List.length_take, List.length_drop]; omega
        rw [rematchref04_run.l0, str_size, if_pos (by omega), ← hn, show (2 * ((n : Int) - 1)) % 256 = 2 * ((n : Int) - 1) by omega]
        simp only [Option.bind_some]
        rw [str_size, str_size, if_pos c1, if_pos c2, if_pos c3, Int.toNat_natCast, str_cut, str_cut, ← str_app, str_size, str_size, if_pos (by rw [List.length_append]; simp only [List.length_singleton]; omega), ← str_app]
        rw [List.drop_zero, Nat.sub_zero, List.take_of_length_le (l := l.drop n) (by rw [List.length_drop]; omega)]
      rw [lz_run]
      by_cases h64 : 64 < l.length
      · rw [if_pos h64]
        have := ih (l.drop 64) (out ++ [2 * ((64 : Int) - 1)] ++ l.take 64) (by rw [List.length_drop]; omega) (by rw [List.length_drop]; omega) (by simp only [List.length_append, List.length_singleton, List.length_take, List.length_drop]; omega)
        refine stepx 64 (by unfold mn; omega) (by omega) (by decide) (by decide) _ ?_
        rw [show out ++ (126 :: l.take 64 ++ lz_run f (l.drop 64)) = out ++ [2 * ((64 : Int) - 1)] ++ l.take 64 ++ lz_run f (l.drop 64) by simp]
        exact this
      · rw [if_neg h64, if_neg h0]
        have := ih (l.drop l.length) (out ++ [2 * ((l.length : Int) - 1)] ++ l.take l.length) (by rw [List.length_drop]; omega) (by rw [List.length_drop]; omega) (by simp only [List.length_append, List.length_singleton, List.length_take, List.length_drop]; omega)
        refine stepx l.length (by unfold mn; omega) (Nat.le_refl _) hp (by omega) _ ?_
        rw [List.drop_length, List.take_length] at this ⊢
        have e0 : lz_run f [] = [] := by cases f <;> simp [lz_run]
        rw [e0, List.append_nil] at this
        rw [show out ++ (2 * ((l.length : Int) - 1)) :: l = out ++ [2 * ((l.length : Int) - 1)] ++ l by simp]
        exact this
theorem vb_size (l : List Int) : (strOfNums l).size = l.length := str_size l
theorem ref_varint (k : Nat) : ∀ n : Int, 0 ≤ n → n < 128 * 128 ^ k → n < 18446744073709551616 → k ≤ 9 → rematchref01_Varint.f (k + 1) n = some (strOfNums (wire_vb k n)) := by
  induction k with
  | zero =>
    intro n h0 h1 _ _
    simp only [Int.pow_zero, Int.mul_one] at h1
    rw [rematchref01_Varint.f, if_pos h1]
    rfl
  | succ k ih =>
    intro n h0 h1 h2 hk
    by_cases hn : n < 128
    · rw [rematchref01_Varint.f, if_pos hn, wire_vb, if_neg (by omega)]
    · have hp : (128 : Int) ^ (k + 1) = 128 * 128 ^ k := by rw [Int.pow_succ]; omega
      rw [rematchref01_Varint.f, if_neg hn]
      simp only [Option.bind_some]
      have e1 : Int.tdiv n 128 = n / 128 := Int.tdiv_eq_ediv_of_nonneg h0
      have e2 : Int.tmod n 128 = n % 128 := Int.tmod_eq_emod_of_nonneg h0
      have w1 : IntKind.u64.wrap (n / 128) = n / 128 := by rw [IntKind.wrap_u64]; omega
      have w2 : IntKind.u64.wrap (n % 128 + 128) % 256 = n % 128 + 128 := by rw [IntKind.wrap_u64]; omega
      have hl := (wire_vb_len k (n / 128)).2
      rw [e1, e2, w1, w2, ih (n / 128) (by omega) (by omega) (by omega) (by omega)]
      simp only [Option.bind_some]
      rw [if_pos (by rw [str_size, str_size, List.length_singleton]; omega), ← str_app, wire_vb, if_pos (by omega)]
      rfl
theorem varint_ev (n : Int) (h : 0 ≤ n ∧ n < 18446744073709551616) : Ev (fun k => rematchref01_Varint.f k n) (strOfNums (wire_vb 9 n)) :=
  Ev.of (rematchref01_Varint.mono n) (ref_varint 9 n h.1 (by omega) h.2 (by omega))
theorem run_f {l : List Int} {F : Nat} (hF : l.length ≤ F) (hl : l.length ≤ 2000) : Ev (fun k => rematchref04_run.f k (strOfNums l)) (strOfNums (lz_run F l)) := by
  have := run_ok F l [] hF hl (by simp; omega)
  unfold rematchref04_run.f
  rw [List.nil_append] at this
  exact this
theorem run_len : ∀ (f : Nat) (l : List Int), (lz_run f l).length ≤ 2 * l.length := by
  intro f
  induction f with
  | zero => intro l; simp [lz_run]
  | succ f ih =>
    intro l
    rw [lz_run]
    split
    · have := ih (l.drop 64)
      rw [List.length_drop] at this
      simp only [List.length_append, List.length_cons, List.length_take]
      omega
    · split
      · simp
      · rename_i h
        have hp : 0 < l.length := by cases l with | nil => exact absurd rfl h | cons _ _ => simp
        simp only [List.length_cons]; omega
theorem pack_ok {b : List Int} (hb : IsB b) (hl : b.length ≤ 2000) : ∀ (f at_ plain : Nat) (out : List Int), plain ≤ at_ → at_ ≤ b.length → b.length < f + at_ → out.length ≤ 4 * plain →
    Ev (fun k => rematchref04_Pack.l0 k (strOfNums b) (strOfNums out) plain at_) (strOfNums (lz_packF b f at_ plain out)) := by
  intro f
  induction f with
  | zero => intro at_ plain out _ h1 h2; omega
  | succ f ih =>
    intro at_ plain out hp hat hf ho
    have hcl := lz_cut_len b plain at_ hat
    have hrl := run_len b.length (lz_cut b plain at_)
    by_cases hlt : at_ < b.length
    · rw [lz_packF, if_pos hlt]
      have hbest := best_ok hb hl hat
      have hbo := lz_best_ok b at_
      obtain ⟨⟨q, n⟩, hQ⟩ : ∃ Q, lz_best b at_ = Q := ⟨_, rfl⟩
      rw [hQ] at hbest hbo ⊢
      simp only at hbest hbo ⊢
      by_cases hn : n = 0
      · rw [if_pos hn]
        have := ih (at_ + 1) plain out (by omega) (by omega) (by omega) ho
        obtain ⟨K1, h1⟩ := hbest
        obtain ⟨K2, h2⟩ := this
        refine ⟨K1 + K2 + 1, fun k hk => ?_⟩
        obtain ⟨k, rfl⟩ : ∃ m, k = m + 1 := ⟨k - 1, by omega⟩
        have hk1 : rematchref04_best.f k (strOfNums b) at_ = some ((q : Int), (n : Int)) := h1 k (by omega)
        show rematchref04_Pack.l0 (k + 1) _ _ _ _ = _
        rw [rematchref04_Pack.l0, if_pos (by rw [str_size]; omega), show wrap64 ((at_ : Int) + 1) = ((at_ + 1 : Nat) : Int) by unfold wrap64; omega, hk1]
        simp only [Option.bind_some]
        rw [if_pos (show ((n : Nat) : Int) = 0 by omega)]
        exact h2 k (by omega)
      · rw [if_neg hn]
        obtain ⟨b1, b2, b3, b4, b5, b6, _⟩ := hbo.resolve_left hn
        have hv := lz_vb_len ((at_ : Int) - q - 1)
        have := ih (at_ + n) (at_ + n) (out ++ lz_run b.length (lz_cut b plain at_) ++ [2 * ((n : Int) - 3) + 1] ++ wire_vb 9 ((at_ : Int) - q - 1)) (Nat.le_refl _) (by omega) (by omega) (by simp only [List.length_append, List.length_singleton]; omega)
        have hrun := run_f (l := lz_cut b plain at_) (F := b.length) (by omega) (by omega)
        have hvar := varint_ev ((at_ : Int) - q - 1) (by omega)
        have hcut : (strOfNums b).extract ((plain : Int)).toNat ((at_ : Int)).toNat = strOfNums (lz_cut b plain at_) := by rw [str_cut]; rfl
        have hF : Ev (fun k => (rematchref04_run.f k (strOfNums (lz_cut b plain at_))).bind fun t116 => (if (strOfNums out).size + t116.size ≤ 9223372036854775807 then ((if (strOfNums out ++ t116).size + (strOfNums [2 * ((n : Int) - 3) + 1]).size ≤ 9223372036854775807 then ((rematchref01_Varint.f k ((at_ : Int) - q - 1)).bind fun t120 => (if ((strOfNums out ++ t116) ++ (strOfNums [2 * ((n : Int) - 3) + 1])).size + t120.size ≤ 9223372036854775807 then (rematchref04_Pack.l0 k (strOfNums b) (((strOfNums out ++ t116) ++ (strOfNums [2 * ((n : Int) - 3) + 1])) ++ t120) ((at_ + n : Nat) : Int) ((at_ + n : Nat) : Int)) else (none))) else (none))) else (none))) (strOfNums (lz_packF b f (at_ + n) (at_ + n) (out ++ lz_run b.length (lz_cut b plain at_) ++ [2 * ((n : Int) - 3) + 1] ++ wire_vb 9 ((at_ : Int) - q - 1)))) := by
          refine Ev.bind hrun ?_
          have c1 : (strOfNums out).size + (strOfNums (lz_run b.length (lz_cut b plain at_))).size ≤ 9223372036854775807 := by rw [str_size, str_size]; omega
          have c2 : (strOfNums out ++ strOfNums (lz_run b.length (lz_cut b plain at_))).size + (strOfNums [2 * ((n : Int) - 3) + 1]).size ≤ 9223372036854775807 := by
            rw [← str_app, str_size, str_size, List.length_append, List.length_singleton]; omega
          simp only [if_pos c1, if_pos c2]
          refine Ev.bind hvar ?_
          have c3 : (strOfNums out ++ strOfNums (lz_run b.length (lz_cut b plain at_)) ++ strOfNums [2 * ((n : Int) - 3) + 1]).size + (strOfNums (wire_vb 9 ((at_ : Int) - q - 1))).size ≤ 9223372036854775807 := by
            rw [← str_app, ← str_app, str_size, str_size, List.length_append, List.length_append, List.length_singleton]; omega
          simp only [if_pos c3]
          rw [← str_app, ← str_app, ← str_app]
          exact this
        obtain ⟨K1, h1⟩ := hbest
        obtain ⟨K2, h2⟩ := hF
        refine ⟨K1 + K2 + 1, fun k hk => ?_⟩
        obtain ⟨k, rfl⟩ : ∃ m, k = m + 1 := ⟨k - 1, by omega⟩
        have hk1 : rematchref04_best.f k (strOfNums b) at_ = some ((q : Int), (n : Int)) := h1 k (by omega)
        show rematchref04_Pack.l0 (k + 1) _ _ _ _ = _
        rw [rematchref04_Pack.l0, if_pos (by rw [str_size]; omega), hk1]
        have h2k := h2 k (by omega)
        have c4 : (0 : Int) ≤ (plain : Int) := by omega
        have c5 : (plain : Int) ≤ (at_ : Int) := by omega
        have c6 : (at_ : Int) ≤ ((strOfNums b).size : Int) := by rw [str_size]; omega
        have w1 : wrap64 ((n : Int) - 3) = (n : Int) - 3 := by unfold wrap64; omega
        have w2 : wrap64 (2 * ((n : Int) - 3)) = 2 * ((n : Int) - 3) := by unfold wrap64; omega
        have w3 : wrap64 (2 * ((n : Int) - 3) + 1) % 256 = 2 * ((n : Int) - 3) + 1 := by unfold wrap64; omega
        have w4 : IntKind.u64.wrap (wrap64 (wrap64 ((at_ : Int) - q) - 1)) = (at_ : Int) - q - 1 := by
          rw [show wrap64 ((at_ : Int) - q) = (at_ : Int) - q by unfold wrap64; omega, show wrap64 ((at_ : Int) - q - 1) = (at_ : Int) - q - 1 by unfold wrap64; omega]
          exact lz_u64 _ (by omega)
        have w5 : wrap64 ((at_ : Int) + n) = ((at_ + n : Nat) : Int) := by unfold wrap64; omega
        simp only [Option.bind_some]
        rw [if_neg (show ¬ ((n : Nat) : Int) = 0 by omega), if_pos c4, if_pos c5, if_pos c6, w1, w2, w3, w4, w5, hcut]
        exact h2k
    · obtain rfl : at_ = b.length := by omega
      rw [lz_packF, if_neg hlt]
      have hrun := run_f (l := lz_cut b plain b.length) (F := b.length) (by omega) (by omega)
      have hcut : (strOfNums b).extract ((plain : Int)).toNat (strOfNums b).size = strOfNums (lz_cut b plain b.length) := by rw [str_cut, str_size]; rfl
      refine Ev.step (f := fun k => (rematchref04_run.f k (strOfNums (lz_cut b plain b.length))).bind fun t113 => (if (strOfNums out).size + t113.size ≤ 9223372036854775807 then (some (strOfNums out ++ t113)) else (none))) (fun k => ?_) (Ev.bind hrun ?_)
      · have c4 : (0 : Int) ≤ (plain : Int) := by omega
        have c5 : (plain : Int) ≤ ((strOfNums b).size : Int) := by rw [str_size]; omega
        rw [rematchref04_Pack.l0, if_neg (by rw [str_size]; omega), if_pos c4, if_pos c5, hcut]
      · have c1 : (strOfNums out).size + (strOfNums (lz_run b.length (lz_cut b plain b.length))).size ≤ 9223372036854775807 := by rw [str_size, str_size]; omega
        simp only [if_pos c1]
        rw [← str_app]
        exact Ev.now _
theorem pack_ref {b : List Int} (hb : IsB b) (hl : b.length ≤ 2000) : Ev (fun k => rematchref04_Pack.f k (strOfNums b)) (strOfNums (lz_pack b)) := by
  have := pack_ok hb hl (b.length + 1) 0 0 [] (Nat.le_refl _) (by omega) (by omega) (by simp)
  unfold rematchref04_Pack.f lz_pack
  exact this
end LzP
end Go.Proofs.YtigcgdhihaibbaaDoor.Pure

/- Chunk: the law ChunkPuts: from the arguments' rows to the walk. No condition. -/
namespace Go.Proofs.YtigcgdhihaibbaaDoor.PLz
open Go.RowKit Go.Proofs.YtigcgdhihaibbaaDoorW.PrintWords Go.Proofs.YtigcgdhihaibbaaDoorW.PrintLast
set_option linter.unusedVariables false
theorem body_le (d : List Int) : (ck_body d).length ≤ d.length := by
  unfold ck_body
  split <;> omega
theorem body_bytes {d : List Int} (h : IsB d) : IsB (ck_body d) := by
  unfold ck_body
  split
  · exact lb_isB h
  · exact h
theorem how_range (d : List Int) : ck_how d = 0 ∨ ck_how d = 1 := by
  unfold ck_how
  split
  · exact .inr rfl
  · exact .inl rfl
theorem main_bytes {kind : Int} {d : List Int} (hk : 0 ≤ kind ∧ kind < 256) (h : IsB d) : IsB (ck_main kind d) := by
  unfold ck_main
  refine isB_app (isB_app (isB_app (fun x hx => ?_) (ck_vb_bytes _ _ (by omega))) (ck_vb_bytes _ _ (by omega))) (body_bytes h)
  have := how_range d
  simp only [List.mem_cons, List.not_mem_nil, or_false] at hx
  rcases hx with rfl | rfl <;> omega
end Go.Proofs.YtigcgdhihaibbaaDoor.PLz
namespace Go.Proofs.YtigcgdhihaibbaaDoor
open Go.RowKit Go.Proofs.YtigcgdhihaibbaaDoor.PLz Go.Proofs.YtigcgdhihaibbaaDoorW.PrintWords Go.Proofs.YtigcgdhihaibbaaDoorW.PrintLast Go.Proofs.YtigcgdhihaibbaaDoorW.PrintMore
set_option linter.unusedVariables false
theorem row_u8 {n : Int} (h : (Lit.int .u8 n).wf = true) : 0 ≤ n ∧ n < 256 := by
  simp [Lit.wf, IntKind.min, IntKind.max, IntKind.bits, IntKind.signed] at h
  omega
theorem row_bytes {W : World} {A : Option Addr} {len cap : Nat} {zs : List Int} (h : IsRow .u8 W A len cap zs) :
    Kd.C (Kd.int .u8) W A len (zs.take len) ∧ (zs.take len).length = len ∧ len ≤ cap ∧ ∀ x ∈ zs.take len, 0 ≤ x ∧ x < 256 := by
  rcases h with ⟨rfl, rfl, rfl, rfl⟩ | ⟨x, rfl, hl, hm, hz, hc, hw⟩
  · exact ⟨Kd.C_nil _ _, rfl, Nat.le_refl _, fun x hx => by simp at hx⟩
  · have hlen : (zs.take len).length = len := by rw [List.length_take]; omega
    refine ⟨⟨hlen, by simp [maxLen] at hm; omega, fun _ => ⟨x, rfl, fun j p hj => ⟨[.int .u8 p], rfl, rfl, fun i u hi => ?_⟩⟩⟩, hlen, hl, fun y hy => row_u8 (hw y (List.mem_of_mem_take hy))⟩
    have hi0 : i = 0 := by have := (List.getElem?_eq_some_iff.1 hi).1; simp at this; omega
    subst hi0
    have hjl := (List.getElem?_eq_some_iff.1 hj).1
    rw [show j * (Kd.int .u8).sz + 0 = j by show j * 1 + 0 = j; omega, hc j (by omega)]
    simp at hi
    subst hi
    rw [List.getElem?_take_of_lt (by omega)] at hj
    rw [List.getD_eq_getElem?_getD, hj]
    rfl
end Go.Proofs.YtigcgdhihaibbaaDoor
namespace Go.Proofs.YtigcgdhihaibbaaDoor
open Go.RowKit Go.Proofs.YtigcgdhihaibbaaDoor.PLz Go.Proofs.YtigcgdhihaibbaaDoor.PRef Go.Proofs.YtigcgdhihaibbaaDoorW.PrintWords Go.Proofs.YtigcgdhihaibbaaDoorW.PrintLast Go.Proofs.YtigcgdhihaibbaaDoorW.PrintMore
set_option linter.unusedVariables false
theorem fixed_ref (n : Int) (h : 0 ≤ n ∧ n < 4294967296) : rematchref01_Fixed.f n = some (strOfNums (ck_fix n)) := by
  unfold rematchref01_Fixed.f ck_fix
  rw [Int.tdiv_eq_ediv_of_nonneg h.1, Int.tdiv_eq_ediv_of_nonneg h.1, Int.tdiv_eq_ediv_of_nonneg h.1, Int.tmod_eq_emod_of_nonneg h.1]
  have e1 : n / 16777216 % 4294967296 % 256 = n / 16777216 := by omega
  have e2 : n / 65536 % 4294967296 % 256 = n / 65536 % 256 := by omega
  have e3 : n / 256 % 4294967296 % 256 = n / 256 % 256 := by omega
  have e4 : n % 256 % 256 = n % 256 := by omega
  rw [e1, e2, e3, e4]
theorem ck_puts_law (A0 : Option Addr) (n0 c0 : Nat) (zs0 : List Int) (A1 : Option Addr) (n1 c1 : Nat) (zs1 : List Int) (kind : Int) (W : World) (h0 : IsRow .u8 W A0 n0 c0 zs0) (h1 : IsRow .u8 W A1 n1 c1 zs1) (h2 : (Lit.int .u8 kind).wf = true) (hT : Tab W) :
    Calls Tryd.prog 3 #[.slice A0 n0 c0, .slice A1 n1 c1, .int .u8 kind] W fun e w' => e = .returned (.bool true) ∧ Below W.heap.size W w' := by
  by_cases hb : 2000 < n0 ∨ 2000 < n1
  · exact ck_puts_big A0 n0 c0 A1 n1 c1 kind W hT hb
  · obtain ⟨hC0, hl0, hlc0, hr0⟩ := row_bytes h0
    obtain ⟨hC1, hl1, hlc1, hr1⟩ := row_bytes h1
    obtain ⟨a, ha⟩ : ∃ a, zs0.take n0 = a := ⟨_, rfl⟩
    obtain ⟨d, hd⟩ : ∃ d, zs1.take n1 = d := ⟨_, rfl⟩
    rw [ha] at hC0 hl0 hr0
    rw [hd] at hC1 hl1 hr1
    have hk := row_u8 h2
    have hcr := ck_crc_range (ck_main kind d)
    obtain ⟨k, hpk⟩ := Pure.LzP.pack_ref (b := d) hr1 (by omega)
    have hpk := hpk k (Nat.le_refl _)
    have hp : (10000 : Int) < 128 * 128 ^ 9 := by decide
    have hv : ∀ n : Nat, n ≤ 10000 → rematchref01_Varint.f 10 (n : Int) = some (strOfNums (wire_vb 9 (n : Int))) := fun n hn =>
      Pure.LzP.ref_varint 9 n (by omega) (Int.lt_of_le_of_lt (show (n : Int) ≤ 10000 by omega) hp) (by omega) (by omega)
    have := ck_puts_walk A0 c0 a A1 c1 d kind W (by rw [hl0]; exact hC0) (by omega) (by rw [hl1]; exact hC1) (by omega) (by omega) (by omega) hr0 hr1 hk hT
      (fun W' => ck_refPut_calls k 10 kind d W' hr1 hk (by omega) (main_bytes hk hr1) hpk hv (fixed_ref _ hcr))
    rwa [hl0, hl1] at this
end Go.Proofs.YtigcgdhihaibbaaDoor
