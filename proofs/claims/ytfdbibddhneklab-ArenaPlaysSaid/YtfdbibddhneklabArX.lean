import Derived.Test.YtfdbibddhneklabArV
namespace Go.Proofs.Ytfdbibddhneklab.Arena
open Go.RowKit Go.Sort Go.Proofs.YtfdbibddhneklabW.PrintWords
set_option linter.unusedVariables false
set_option linter.unusedSimpArgs false
set_option maxRecDepth 100000
set_option maxHeartbeats 40000000
theorem plays_walk (A : Option Addr) (len cap : Nat) (D : Nat → Int) (Id : Nat → Nat) (X : Nat → Int) (ask : Nat) (w : World) (hA : Acts w A len D Id X) (hlen : len ≤ 300) (hask : ask < 65536) :
    Calls Try.prog 7 #[.slice A len cap, .int .u16 ask] w fun e w' => e = .returned (.bool true) ∧ Below w.heap.size w w' := by
  have HA := Lib.hid hA
  have hl : ¬ (300 : Int) < len := by omega
  have hz1 := zero29' w
  have hz2 := zero29' (w.alloc (.cells (acs Z0) 29))
  have hz3 := zero67' ((w.alloc (.cells (acs Z0) 29)).alloc (.cells (acs Z0) 29))
  have hz4 := zero67' (((w.alloc (.cells (acs Z0) 29)).alloc (.cells (acs Z0) 29)).alloc (.cells (rcs Z0) 67))
  have HB := Lib.hid (((((Below.refl w.heap.size w).alloc (Nat.le_refl _) (.cells (acs Z0) 29)).alloc (by simp) (.cells (acs Z0) 29)).alloc (by simp; omega) (.cells (rcs Z0) 67)).alloc (by simp; omega) (.cells (rcs Z0) 67))
  have S0 := Lib.hid (show St ((((w.alloc (.cells (acs Z0) 29)).alloc (.cells (acs Z0) 29)).alloc (.cells (rcs Z0) 67)).alloc (.cells (rcs Z0) 67)) w.heap.size Z0 Z0 Z0 Z0 from
    ⟨lies_past _ _ _ _ (lies_past _ _ _ _ (lies_past _ _ _ _ (lies_new w Z0 w.heap.size rfl))), lies_past _ _ _ _ (lies_past _ _ _ _ (lies_new (w.alloc (.cells (acs Z0) 29)) Z0 (w.heap.size + 1) (by simp))), liesR_past _ _ _ _ (liesR_new ((w.alloc (.cells (acs Z0) 29)).alloc (.cells (acs Z0) 29)) Z0 (w.heap.size + 1 + 1) (by simp)), liesR_new (((w.alloc (.cells (acs Z0) 29)).alloc (.cells (acs Z0) 29)).alloc (.cells (rcs Z0) 67)) Z0 (w.heap.size + 1 + 1 + 1) (by simp)⟩)
  have HK := Lib.hid (fun W => wakes_any W)
  obtain ⟨q, hq⟩ : ∃ q : Nat, q = len / 2 := ⟨_, rfl⟩
  have HQ : (len : Int).tdiv 2 = (q : Int) := by rw [Int.tdiv_eq_ediv_of_nonneg (by omega)]; omega
  clear hA
  go_enter Try.func7, Try.ntmps7
  go_wp2_with fail
  go_loopw [9] (fun v wr => ∃ (k : Nat) (L H : List Sl), v = .int .i64 k ∧ k ≤ len ∧ Pv k L ∧ Pv 300 H ∧ St wr w.heap.size L H L H ∧ Below w.heap.size w wr) (fun v _ => len - (intOf v).toNat)
  case atStart => exact ⟨0, Z0, Z0, rfl, by omega, Pv.zero, Pv.zero.more (by omega), S0.out, HB.out⟩
  case round =>
    obtain ⟨k, L, H, rfl, hk, hP, hH, hS, hB⟩ := hrel
    obtain ⟨w1, hw1⟩ : ∃ x, x = wr := ⟨_, rfl⟩
    rw [← hw1] at hS hB ⊢
    clear hw1 hz1 hz2 hz3 hz4 S0 HB
    have S1 := Lib.hid hS
    have B1 := Lib.hid hB
    have PL := Lib.hid hP
    have PH := Lib.hid hH
    clear hS hB hH
    have IL := Lib.hid (info29 L hP.len)
    have ILR := Lib.hid (info67 L hP.len)
    by_cases h : k < len
    · have h1 : (k : Int) < len := by omega
      obtain ⟨a, rfl⟩ := HA.out.s (by omega)
      have ad := (HA.out.next B1.out).d k a h rfl
      have ai := (HA.out.next B1.out).i k a h rfl
      have ax := (HA.out.next B1.out).x k a h rfl
      have ai2 := ai
      rw [add_field a (k * 3) 1 (by omega)] at ai2
      have ax2 := ax
      rw [add_field a (k * 3) 2 (by omega)] at ax2
      have hidk := HA.out.r k h
      have hwi : wrap64 (Id k : Int) = Id k := by unfold wrap64; omega
      have hwi2 : IntKind.i64.wrap (Id k : Int) = Id k := by rw [IntKind.wrap_i64]; omega
      by_cases hd : D k = 0
      · rw [hd] at ad
        obtain ⟨LN, hLN⟩ : ∃ A, A = dropL L (Id k) := ⟨_, rfl⟩
        have PN := Lib.hid (show Pv (k + 1) LN by rw [hLN]; exact hP.drop (by omega) (Id k))
        have HC1 := Lib.hid (fun W => drop_any L (Id k) hP.len hidk W)
        have HC2 := Lib.hid (fun W => dropR_any L (Id k) hP.len hidk (fun j hj => by have := hP.gen j hj; omega) W)
        rw [dropR_eq hP (by omega) (Id k)] at HC2
        rw [← hLN] at HC1 HC2
        have IN := Lib.hid (info29 LN PN.out.len)
        have IW := Lib.hid (info67 LN PN.out.len)
        clear hLN hP
        have S1d := Lib.hid (S1.out.next ((Below.refl _ _).drew))
        have B1d := Lib.hid (B1.out.drew)
        go_wp2_with fail
        refine still_tail 6 (by kernel_rfl) (by kernel_rfl) ?_
        simp only [List.take_succ_cons, List.take_zero, List.drop_succ_cons, List.drop_zero]
        refine still_load_row rfl 29 (.tmp 5) rfl _ rfl _ _ _ _ S1d.out.a Try.underlying29 rfl IL.out ?_
        repeat still_step
        refine wpStill_nil ?_
        generalize w1.drew = w1d at *
        change wpList _ _ _ _ _ w1d
        clear ai ai2 ax ax2
        go_wp2_with fail
        refine (HC1.out _).mono ?_; rintro e w20 ⟨rfl, hb⟩
        have S20 := Lib.hid (S1d.out.next hb)
        have S2 := Lib.hid (S20.out.setA LN)
        have B2 := Lib.hid (below_setRow (bnext B1d.out (Nat.le_refl _) hb) (show w.heap.size ≤ w.heap.size by omega) (acs LN))
        clear hb S1 B1 S1d B1d
        go_wp2_with (refine wpList_store_row rfl 29 (.tmp 5) (.tmp 85) rfl _ _ rfl rfl _ _ S20.out.a IN.out (by rw [acs_size, acs_size, PL.out.len, PN.out.len]) (acs_one _) ?_)
        generalize w20.setRow (w.heap.size) (acs LN) = w2 at *
        have ai := (HA.out.next B2.out).i k a h rfl
        have ax := (HA.out.next B2.out).x k a h rfl
        have ai2 := ai
        rw [add_field a (k * 3) 1 (by omega)] at ai2
        have ax2 := ax
        rw [add_field a (k * 3) 2 (by omega)] at ax2
        have S2d := Lib.hid (S2.out.next ((Below.refl _ _).drew))
        have B2d := Lib.hid (B2.out.drew)
        go_wp2_with fail
        refine still_tail 7 (by kernel_rfl) (by kernel_rfl) ?_
        simp only [List.take_succ_cons, List.take_zero, List.drop_succ_cons, List.drop_zero]
        refine still_load_row rfl 67 (.tmp 7) rfl _ rfl _ _ _ _ S2d.out.w Try.underlying67 rfl ILR.out ?_
        repeat still_step
        refine wpStill_nil ?_
        generalize w2.drew = w2d at *
        change wpList _ _ _ _ _ w2d
        clear ai ai2 ax ax2
        go_wp2_with fail
        refine (HC2.out _).mono ?_; rintro e w30 ⟨rfl, hb⟩
        have S30 := Lib.hid (S2d.out.next hb)
        have S3 := Lib.hid (S30.out.setW LN)
        have B3 := Lib.hid (below_setRow (bnext B2d.out (Nat.le_refl _) hb) (show w.heap.size ≤ w.heap.size + 1 + 1 by omega) (rcs LN))
        clear hb S2 B2 S2d B2d
        by_cases hh : k = q
        · have hkq : ((k : Int) == (q : Int)) = true := by simp [hh]
          have T1 := Lib.hid (S3.out.setH LN)
          have T2 := Lib.hid (T1.out.setS LN)
          have C1 := Lib.hid (below_setRow B3.out (show w.heap.size ≤ w.heap.size + 1 by omega) (acs LN))
          have C2 := Lib.hid (below_setRow C1.out (show w.heap.size ≤ w.heap.size + 1 + 1 + 1 by omega) (rcs LN))
          go_wp2_with (first | (refine wpList_store_row rfl 67 (.tmp 7) (.tmp 93) rfl _ _ rfl rfl _ _ S30.out.w IW.out (by rw [rcs_size, rcs_size, PL.out.len, PN.out.len]) (rcs_one _) ?_) | (refine wpList_load_row rfl 29 (.tmp 5) rfl _ rfl _ _ _ _ S3.out.a Try.underlying29 rfl IN.out ?_) | (refine wpList_store_row rfl 29 (.tmp 6) (.tmp 126) rfl _ _ rfl rfl _ _ S3.out.h IN.out (by rw [acs_size, acs_size, PH.out.len, PN.out.len]) (acs_one _) ?_) | (refine wpList_load_row rfl 67 (.tmp 7) rfl _ rfl _ _ _ _ T1.out.w Try.underlying67 rfl IW.out ?_) | (refine wpList_store_row rfl 67 (.tmp 8) (.tmp 127) rfl _ _ rfl rfl _ _ T1.out.s IW.out (by rw [rcs_size, rcs_size, PH.out.len, PN.out.len]) (rcs_one _) ?_))
          exact ⟨⟨k + 1, LN, LN, by go_num, by omega, PN.out, PN.out.more (by omega), T2.out, C2.out⟩, by simp [intOf]; omega⟩
        · have hkq : ((k : Int) == (q : Int)) = false := by simp; omega
          go_wp2_with (first | (refine wpList_store_row rfl 67 (.tmp 7) (.tmp 93) rfl _ _ rfl rfl _ _ S30.out.w IW.out (by rw [rcs_size, rcs_size, PL.out.len, PN.out.len]) (rcs_one _) ?_))
          exact ⟨⟨k + 1, LN, H, by go_num, by omega, PN.out, PH.out, S3.out, B3.out⟩, by simp [intOf]; omega⟩
      · by_cases hd1 : D k = 1
        · rw [hd1] at ad
          obtain ⟨LN, hLN⟩ : ∃ A, A = setL L (Id k) (X k) := ⟨_, rfl⟩
          have PN := Lib.hid (show Pv (k + 1) LN by rw [hLN]; exact hP.setx (Id k) (X k))
          have HC1 := Lib.hid (fun W => set_any L (Id k) (X k) hP.len hidk W)
          have HC2 := Lib.hid (fun W => setR_any L (Id k) (X k) hP.len hidk W)
          rw [setR_eq hP (by omega) (Id k) (X k)] at HC2
          rw [← hLN] at HC1 HC2
          have IN := Lib.hid (info29 LN PN.out.len)
          have IW := Lib.hid (info67 LN PN.out.len)
          clear hLN hP
          have S1d := Lib.hid (S1.out.next ((Below.refl _ _).drew))
          have B1d := Lib.hid (B1.out.drew)
          go_wp2_with fail
          refine still_tail 11 (by kernel_rfl) (by kernel_rfl) ?_
          simp only [List.take_succ_cons, List.take_zero, List.drop_succ_cons, List.drop_zero]
          refine still_load_row rfl 29 (.tmp 5) rfl _ rfl _ _ _ _ S1d.out.a Try.underlying29 rfl IL.out ?_
          repeat still_step
          refine wpStill_nil ?_
          generalize w1.drew = w1d at *
          change wpList _ _ _ _ _ w1d
          clear ai ai2 ax ax2
          go_wp2_with fail
          refine (HC1.out _).mono ?_; rintro e w20 ⟨rfl, hb⟩
          have S20 := Lib.hid (S1d.out.next hb)
          have S2 := Lib.hid (S20.out.setA LN)
          have B2 := Lib.hid (below_setRow (bnext B1d.out (Nat.le_refl _) hb) (show w.heap.size ≤ w.heap.size by omega) (acs LN))
          clear hb S1 B1 S1d B1d
          go_wp2_with (refine wpList_store_row rfl 29 (.tmp 5) (.tmp 107) rfl _ _ rfl rfl _ _ S20.out.a IN.out (by rw [acs_size, acs_size, PL.out.len, PN.out.len]) (acs_one _) ?_)
          generalize w20.setRow (w.heap.size) (acs LN) = w2 at *
          have ai := (HA.out.next B2.out).i k a h rfl
          have ax := (HA.out.next B2.out).x k a h rfl
          have ai2 := ai
          rw [add_field a (k * 3) 1 (by omega)] at ai2
          have ax2 := ax
          rw [add_field a (k * 3) 2 (by omega)] at ax2
          have S2d := Lib.hid (S2.out.next ((Below.refl _ _).drew))
          have B2d := Lib.hid (B2.out.drew)
          go_wp2_with fail
          refine still_tail 12 (by kernel_rfl) (by kernel_rfl) ?_
          simp only [List.take_succ_cons, List.take_zero, List.drop_succ_cons, List.drop_zero]
          refine still_load_row rfl 67 (.tmp 7) rfl _ rfl _ _ _ _ S2d.out.w Try.underlying67 rfl ILR.out ?_
          repeat still_step
          refine wpStill_nil ?_
          generalize w2.drew = w2d at *
          change wpList _ _ _ _ _ w2d
          clear ai ai2 ax ax2
          go_wp2_with fail
          refine (HC2.out _).mono ?_; rintro e w30 ⟨rfl, hb⟩
          have S30 := Lib.hid (S2d.out.next hb)
          have S3 := Lib.hid (S30.out.setW LN)
          have B3 := Lib.hid (below_setRow (bnext B2d.out (Nat.le_refl _) hb) (show w.heap.size ≤ w.heap.size + 1 + 1 by omega) (rcs LN))
          clear hb S2 B2 S2d B2d
          by_cases hh : k = q
          · have hkq : ((k : Int) == (q : Int)) = true := by simp [hh]
            have T1 := Lib.hid (S3.out.setH LN)
            have T2 := Lib.hid (T1.out.setS LN)
            have C1 := Lib.hid (below_setRow B3.out (show w.heap.size ≤ w.heap.size + 1 by omega) (acs LN))
            have C2 := Lib.hid (below_setRow C1.out (show w.heap.size ≤ w.heap.size + 1 + 1 + 1 by omega) (rcs LN))
            go_wp2_with (first | (refine wpList_store_row rfl 67 (.tmp 7) (.tmp 120) rfl _ _ rfl rfl _ _ S30.out.w IW.out (by rw [rcs_size, rcs_size, PL.out.len, PN.out.len]) (rcs_one _) ?_) | (refine wpList_load_row rfl 29 (.tmp 5) rfl _ rfl _ _ _ _ S3.out.a Try.underlying29 rfl IN.out ?_) | (refine wpList_store_row rfl 29 (.tmp 6) (.tmp 126) rfl _ _ rfl rfl _ _ S3.out.h IN.out (by rw [acs_size, acs_size, PH.out.len, PN.out.len]) (acs_one _) ?_) | (refine wpList_load_row rfl 67 (.tmp 7) rfl _ rfl _ _ _ _ T1.out.w Try.underlying67 rfl IW.out ?_) | (refine wpList_store_row rfl 67 (.tmp 8) (.tmp 127) rfl _ _ rfl rfl _ _ T1.out.s IW.out (by rw [rcs_size, rcs_size, PH.out.len, PN.out.len]) (rcs_one _) ?_))
            exact ⟨⟨k + 1, LN, LN, by go_num, by omega, PN.out, PN.out.more (by omega), T2.out, C2.out⟩, by simp [intOf]; omega⟩
          · have hkq : ((k : Int) == (q : Int)) = false := by simp; omega
            go_wp2_with (first | (refine wpList_store_row rfl 67 (.tmp 7) (.tmp 120) rfl _ _ rfl rfl _ _ S30.out.w IW.out (by rw [rcs_size, rcs_size, PL.out.len, PN.out.len]) (rcs_one _) ?_))
            exact ⟨⟨k + 1, LN, H, by go_num, by omega, PN.out, PH.out, S3.out, B3.out⟩, by simp [intOf]; omega⟩
        · have hd0 : (D k == 0) = false := by simpa using hd
          have hd2 : (D k == 1) = false := by simpa using hd1
          cases hf : firstF L with
          | some i =>
            obtain ⟨LN, hLN⟩ : ∃ A, A = addL L (X k) := ⟨_, rfl⟩
            have PN := Lib.hid (show Pv (k + 1) LN by rw [hLN]; exact hP.add (X k))
            have HC1 := Lib.hid (fun W => add_any L (X k) hP.len W)
            have HC2 := Lib.hid (fun W => addR_any L (X k) hP.len (fun j hj => by have := hP.gen j hj; omega) W)
            rw [← hLN] at HC1 HC2
            rw [show (firstF L).isSome = true by rw [hf]; rfl] at HC1
            have IN := Lib.hid (info29 LN PN.out.len)
            have IW := Lib.hid (info67 LN PN.out.len)
            obtain ⟨w1a, w1b, w1c⟩ := add_is hP (by omega) hf
            rw [w1a] at HC2
            clear w1a hf
            generalize addId L = AI at *
            have hax := Lib.hid (show w.cell? ⟨(a.add (k * 3)).block, (a.add (k * 3)).off + 2, none⟩ = some (.int .i64 (X k)) by
              have := HA.out.x k a h rfl
              rw [add_field a (k * 3) 2 (by omega)] at this
              exact this)
            have S1d := Lib.hid (S1.out.next ((Below.refl _ _).drew))
            have B1d := Lib.hid (B1.out.drew)
            clear hLN hP ai ai2 ax ax2 S1 B1
            go_wp2_with fail
            refine wp_region_inv (fun a0 w0 b a' w' => ∃ x34 x35 x36 x37 x38 x39 x40 x33 x41 x42 x43 x10 x11 x12 : Value, a' = ((((((((((((((a0.put (some 34) x34).put (some 35) x35).put (some 36) x36).put (some 37) x37).put (some 38) x38).put (some 39) x39).put (some 40) x40).put (some 33) x33).put (some 41) x41).put (some 42) x42).put (some 43) x43).put (some 10) x10).put (some 11) x11).put (some 12) x12) ∧ St w' w.heap.size L H L H ∧ Below w.heap.size w w' ∧ (b 12 = true → b 11 = true) ∧ (b 11 = true → ∃ g R, x10 = .pointer (some ⟨g, 0, none⟩) ∧ w.heap.size + 1 + 1 + 1 < g ∧ Lies w' g R ∧ R.length = 128 ∧ (b 12 = true → R = LN)) ∧ (b 0 = true → x34 = .agg (acs L)) ∧ (b 1 = true → x35 = .slice (some a) len cap) ∧ (b 2 = true → x36 = .int .i64 k) ∧ (b 3 = true → x37 = .pointer (some (a.add (k * 3)))) ∧ (b 4 = true → x38 = .pointer (some ⟨(a.add (k * 3)).block, (a.add (k * 3)).off + 2, none⟩)) ∧ (b 5 = true → x39 = .int .i64 (X k)) ∧ (b 6 = true → x40 = .tuple #[.agg (acs LN), .int .u16 AI, .bool true]) ∧ (b 7 = true → x33 = .tuple #[.agg (acs LN), .int .u16 AI, .bool true]) ∧ (b 8 = true → x41 = .agg (acs LN)) ∧ (b 9 = true → x42 = .int .u16 AI) ∧ (b 10 = true → x43 = .bool true) ∧ (b 13 = true → x11 = .int .u16 AI) ∧ (b 14 = true → x12 = .bool true)) (by kernel_rfl) (by kernel_rfl) ?start ⟨?op0, ?op1, ?op2, ?op3, ?op4, ?op5, ?op6, ?op7, ?op8, ?op9, ?op10, ?op11, ?op12, ?op13, ?op14, trivial⟩ ?done
            case start => exact ⟨_, _, _, _, _, _, _, _, _, _, _, _, _, _, by simp only [Act.put, List.setIfInBounds_toArray, List.set_cons_zero, List.set_cons_succ]; rfl, S1d.out, B1d.out, fun h => absurd h (by decide), fun h => absurd h (by decide), fun h => absurd h (by decide), fun h => absurd h (by decide), fun h => absurd h (by decide), fun h => absurd h (by decide), fun h => absurd h (by decide), fun h => absurd h (by decide), fun h => absurd h (by decide), fun h => absurd h (by decide), fun h => absurd h (by decide), fun h => absurd h (by decide), fun h => absurd h (by decide), fun h => absurd h (by decide), fun h => absurd h (by decide)⟩
            case op0 =>
              rintro bb _ w' ⟨x34, x35, x36, x37, x38, x39, x40, x33, x41, x42, x43, x10, x11, x12, rfl, t0, tB, tO, tP, p34, p35, p36, p37, p38, p39, p40, p33, p41, p42, p43, p11, p12⟩ hb hd K hK
              simp only [Act.put, List.setIfInBounds_toArray, List.set_cons_zero, List.set_cons_succ]
              rw [if_pos (by rfl)]
              refine wp_load_row 29 (.tmp 5) rfl _ rfl _ _ _ _ t0.a Try.underlying29 rfl IL.out ?_
              try simp only [Act.put, List.setIfInBounds_toArray, List.set_cons_zero, List.set_cons_succ]
              exact hK _ _ ⟨.agg (acs L), x35, x36, x37, x38, x39, x40, x33, x41, x42, x43, x10, x11, x12, by simp only [Act.put, List.setIfInBounds_toArray, List.set_cons_zero, List.set_cons_succ], t0, tB, fun h => by have := tO (by simpa [upb] using h); simpa [upb] using this, fun h => (by obtain ⟨g, R, e, hg, hl, hr, ht⟩ := tP (by simpa [upb] using h); exact ⟨g, R, e, hg, hl, hr, fun h => ht (by simpa [upb] using h)⟩), fun _ => rfl, fun h => p35 (by simpa [upb] using h), fun h => p36 (by simpa [upb] using h), fun h => p37 (by simpa [upb] using h), fun h => p38 (by simpa [upb] using h), fun h => p39 (by simpa [upb] using h), fun h => p40 (by simpa [upb] using h), fun h => p33 (by simpa [upb] using h), fun h => p41 (by simpa [upb] using h), fun h => p42 (by simpa [upb] using h), fun h => p43 (by simpa [upb] using h), fun h => p11 (by simpa [upb] using h), fun h => p12 (by simpa [upb] using h)⟩
            case op1 =>
              rintro bb _ w' ⟨x34, x35, x36, x37, x38, x39, x40, x33, x41, x42, x43, x10, x11, x12, rfl, t0, tB, tO, tP, p34, p35, p36, p37, p38, p39, p40, p33, p41, p42, p43, p11, p12⟩ hb hd K hK
              simp only [Act.put, List.setIfInBounds_toArray, List.set_cons_zero, List.set_cons_succ]
              rw [if_pos (by rfl)]
              go_simp
              exact hK _ _ ⟨x34, .slice (some a) len cap, x36, x37, x38, x39, x40, x33, x41, x42, x43, x10, x11, x12, by simp only [Act.put, List.setIfInBounds_toArray, List.set_cons_zero, List.set_cons_succ], t0, tB, fun h => by have := tO (by simpa [upb] using h); simpa [upb] using this, fun h => (by obtain ⟨g, R, e, hg, hl, hr, ht⟩ := tP (by simpa [upb] using h); exact ⟨g, R, e, hg, hl, hr, fun h => ht (by simpa [upb] using h)⟩), fun h => p34 (by simpa [upb] using h), fun _ => rfl, fun h => p36 (by simpa [upb] using h), fun h => p37 (by simpa [upb] using h), fun h => p38 (by simpa [upb] using h), fun h => p39 (by simpa [upb] using h), fun h => p40 (by simpa [upb] using h), fun h => p33 (by simpa [upb] using h), fun h => p41 (by simpa [upb] using h), fun h => p42 (by simpa [upb] using h), fun h => p43 (by simpa [upb] using h), fun h => p11 (by simpa [upb] using h), fun h => p12 (by simpa [upb] using h)⟩
            case op2 =>
              rintro bb _ w' ⟨x34, x35, x36, x37, x38, x39, x40, x33, x41, x42, x43, x10, x11, x12, rfl, t0, tB, tO, tP, p34, p35, p36, p37, p38, p39, p40, p33, p41, p42, p43, p11, p12⟩ hb hd K hK
              simp only [Act.put, List.setIfInBounds_toArray, List.set_cons_zero, List.set_cons_succ]
              rw [if_pos (by rfl)]
              go_simp
              exact hK _ _ ⟨x34, x35, .int .i64 k, x37, x38, x39, x40, x33, x41, x42, x43, x10, x11, x12, by simp only [Act.put, List.setIfInBounds_toArray, List.set_cons_zero, List.set_cons_succ], t0, tB, fun h => by have := tO (by simpa [upb] using h); simpa [upb] using this, fun h => (by obtain ⟨g, R, e, hg, hl, hr, ht⟩ := tP (by simpa [upb] using h); exact ⟨g, R, e, hg, hl, hr, fun h => ht (by simpa [upb] using h)⟩), fun h => p34 (by simpa [upb] using h), fun h => p35 (by simpa [upb] using h), fun _ => rfl, fun h => p37 (by simpa [upb] using h), fun h => p38 (by simpa [upb] using h), fun h => p39 (by simpa [upb] using h), fun h => p40 (by simpa [upb] using h), fun h => p33 (by simpa [upb] using h), fun h => p41 (by simpa [upb] using h), fun h => p42 (by simpa [upb] using h), fun h => p43 (by simpa [upb] using h), fun h => p11 (by simpa [upb] using h), fun h => p12 (by simpa [upb] using h)⟩
            case op3 =>
              rintro bb _ w' ⟨x34, x35, x36, x37, x38, x39, x40, x33, x41, x42, x43, x10, x11, x12, rfl, t0, tB, tO, tP, p34, p35, p36, p37, p38, p39, p40, p33, p41, p42, p43, p11, p12⟩ hb hd K hK
              simp only [Act.put, List.setIfInBounds_toArray, List.set_cons_zero, List.set_cons_succ]
              obtain rfl := p35 (hd 1 (by decide))
              obtain rfl := p36 (hd 2 (by decide))
              rw [if_pos (by rfl)]
              go_simp
              exact hK _ _ ⟨x34, .slice (some a) len cap, .int .i64 k, .pointer (some (a.add (k * 3))), x38, x39, x40, x33, x41, x42, x43, x10, x11, x12, by simp only [Act.put, List.setIfInBounds_toArray, List.set_cons_zero, List.set_cons_succ], t0, tB, fun h => by have := tO (by simpa [upb] using h); simpa [upb] using this, fun h => (by obtain ⟨g, R, e, hg, hl, hr, ht⟩ := tP (by simpa [upb] using h); exact ⟨g, R, e, hg, hl, hr, fun h => ht (by simpa [upb] using h)⟩), fun h => p34 (by simpa [upb] using h), fun _ => rfl, fun _ => rfl, fun _ => rfl, fun h => p38 (by simpa [upb] using h), fun h => p39 (by simpa [upb] using h), fun h => p40 (by simpa [upb] using h), fun h => p33 (by simpa [upb] using h), fun h => p41 (by simpa [upb] using h), fun h => p42 (by simpa [upb] using h), fun h => p43 (by simpa [upb] using h), fun h => p11 (by simpa [upb] using h), fun h => p12 (by simpa [upb] using h)⟩
            case op4 =>
              rintro bb _ w' ⟨x34, x35, x36, x37, x38, x39, x40, x33, x41, x42, x43, x10, x11, x12, rfl, t0, tB, tO, tP, p34, p35, p36, p37, p38, p39, p40, p33, p41, p42, p43, p11, p12⟩ hb hd K hK
              simp only [Act.put, List.setIfInBounds_toArray, List.set_cons_zero, List.set_cons_succ]
              obtain rfl := p37 (hd 3 (by decide))
              rw [if_pos (by rfl)]
              go_simp
              exact hK _ _ ⟨x34, x35, x36, .pointer (some (a.add (k * 3))), .pointer (some ⟨(a.add (k * 3)).block, (a.add (k * 3)).off + 2, none⟩), x39, x40, x33, x41, x42, x43, x10, x11, x12, by simp only [Act.put, List.setIfInBounds_toArray, List.set_cons_zero, List.set_cons_succ], t0, tB, fun h => by have := tO (by simpa [upb] using h); simpa [upb] using this, fun h => (by obtain ⟨g, R, e, hg, hl, hr, ht⟩ := tP (by simpa [upb] using h); exact ⟨g, R, e, hg, hl, hr, fun h => ht (by simpa [upb] using h)⟩), fun h => p34 (by simpa [upb] using h), fun h => p35 (by simpa [upb] using h), fun h => p36 (by simpa [upb] using h), fun _ => rfl, fun _ => rfl, fun h => p39 (by simpa [upb] using h), fun h => p40 (by simpa [upb] using h), fun h => p33 (by simpa [upb] using h), fun h => p41 (by simpa [upb] using h), fun h => p42 (by simpa [upb] using h), fun h => p43 (by simpa [upb] using h), fun h => p11 (by simpa [upb] using h), fun h => p12 (by simpa [upb] using h)⟩
            case op5 =>
              rintro bb _ w' ⟨x34, x35, x36, x37, x38, x39, x40, x33, x41, x42, x43, x10, x11, x12, rfl, t0, tB, tO, tP, p34, p35, p36, p37, p38, p39, p40, p33, p41, p42, p43, p11, p12⟩ hb hd K hK
              simp only [Act.put, List.setIfInBounds_toArray, List.set_cons_zero, List.set_cons_succ]
              obtain rfl := p38 (hd 4 (by decide))
              rw [if_pos (by rfl)]
              have tc := cell_next tB hax.out
              go_simp
              exact hK _ _ ⟨x34, x35, x36, x37, .pointer (some ⟨(a.add (k * 3)).block, (a.add (k * 3)).off + 2, none⟩), .int .i64 (X k), x40, x33, x41, x42, x43, x10, x11, x12, by simp only [Act.put, List.setIfInBounds_toArray, List.set_cons_zero, List.set_cons_succ], t0, tB, fun h => by have := tO (by simpa [upb] using h); simpa [upb] using this, fun h => (by obtain ⟨g, R, e, hg, hl, hr, ht⟩ := tP (by simpa [upb] using h); exact ⟨g, R, e, hg, hl, hr, fun h => ht (by simpa [upb] using h)⟩), fun h => p34 (by simpa [upb] using h), fun h => p35 (by simpa [upb] using h), fun h => p36 (by simpa [upb] using h), fun h => p37 (by simpa [upb] using h), fun _ => rfl, fun _ => rfl, fun h => p40 (by simpa [upb] using h), fun h => p33 (by simpa [upb] using h), fun h => p41 (by simpa [upb] using h), fun h => p42 (by simpa [upb] using h), fun h => p43 (by simpa [upb] using h), fun h => p11 (by simpa [upb] using h), fun h => p12 (by simpa [upb] using h)⟩
            case op6 =>
              rintro bb _ w' ⟨x34, x35, x36, x37, x38, x39, x40, x33, x41, x42, x43, x10, x11, x12, rfl, t0, tB, tO, tP, p34, p35, p36, p37, p38, p39, p40, p33, p41, p42, p43, p11, p12⟩ hb hd K hK
              simp only [Act.put, List.setIfInBounds_toArray, List.set_cons_zero, List.set_cons_succ]
              obtain rfl := p34 (hd 0 (by decide))
              obtain rfl := p39 (hd 5 (by decide))
              rw [if_pos (by rfl)]
              go_simp
              refine (HC1.out _).mono ?_; rintro e w4 ⟨rfl, hbel⟩
              try dsimp only
              exact hK _ _ ⟨.agg (acs L), x35, x36, x37, x38, .int .i64 (X k), .tuple #[.agg (acs LN), .int .u16 AI, .bool true], x33, x41, x42, x43, x10, x11, x12, by simp only [Act.put, List.setIfInBounds_toArray, List.set_cons_zero, List.set_cons_succ], t0.next hbel, bnext tB (Nat.le_refl _) hbel, fun h => by have := tO (by simpa [upb] using h); simpa [upb] using this, fun h => (by obtain ⟨g, R, e, hg, hl, hr, ht⟩ := tP (by simpa [upb] using h); exact ⟨g, R, e, hg, hl.next hbel, hr, fun h => ht (by simpa [upb] using h)⟩), fun _ => rfl, fun h => p35 (by simpa [upb] using h), fun h => p36 (by simpa [upb] using h), fun h => p37 (by simpa [upb] using h), fun h => p38 (by simpa [upb] using h), fun _ => rfl, fun _ => rfl, fun h => p33 (by simpa [upb] using h), fun h => p41 (by simpa [upb] using h), fun h => p42 (by simpa [upb] using h), fun h => p43 (by simpa [upb] using h), fun h => p11 (by simpa [upb] using h), fun h => p12 (by simpa [upb] using h)⟩
            case op7 =>
              rintro bb _ w' ⟨x34, x35, x36, x37, x38, x39, x40, x33, x41, x42, x43, x10, x11, x12, rfl, t0, tB, tO, tP, p34, p35, p36, p37, p38, p39, p40, p33, p41, p42, p43, p11, p12⟩ hb hd K hK
              simp only [Act.put, List.setIfInBounds_toArray, List.set_cons_zero, List.set_cons_succ]
              obtain rfl := p40 (hd 6 (by decide))
              rw [if_pos (by rfl)]
              go_simp
              exact hK _ _ ⟨x34, x35, x36, x37, x38, x39, .tuple #[.agg (acs LN), .int .u16 AI, .bool true], .tuple #[.agg (acs LN), .int .u16 AI, .bool true], x41, x42, x43, x10, x11, x12, by simp only [Act.put, List.setIfInBounds_toArray, List.set_cons_zero, List.set_cons_succ], t0, tB, fun h => by have := tO (by simpa [upb] using h); simpa [upb] using this, fun h => (by obtain ⟨g, R, e, hg, hl, hr, ht⟩ := tP (by simpa [upb] using h); exact ⟨g, R, e, hg, hl, hr, fun h => ht (by simpa [upb] using h)⟩), fun h => p34 (by simpa [upb] using h), fun h => p35 (by simpa [upb] using h), fun h => p36 (by simpa [upb] using h), fun h => p37 (by simpa [upb] using h), fun h => p38 (by simpa [upb] using h), fun h => p39 (by simpa [upb] using h), fun _ => rfl, fun _ => rfl, fun h => p41 (by simpa [upb] using h), fun h => p42 (by simpa [upb] using h), fun h => p43 (by simpa [upb] using h), fun h => p11 (by simpa [upb] using h), fun h => p12 (by simpa [upb] using h)⟩
            case op8 =>
              rintro bb _ w' ⟨x34, x35, x36, x37, x38, x39, x40, x33, x41, x42, x43, x10, x11, x12, rfl, t0, tB, tO, tP, p34, p35, p36, p37, p38, p39, p40, p33, p41, p42, p43, p11, p12⟩ hb hd K hK
              simp only [Act.put, List.setIfInBounds_toArray, List.set_cons_zero, List.set_cons_succ]
              obtain rfl := p33 (hd 7 (by decide))
              rw [if_pos (by rfl)]
              go_simp
              exact hK _ _ ⟨x34, x35, x36, x37, x38, x39, x40, .tuple #[.agg (acs LN), .int .u16 AI, .bool true], .agg (acs LN), x42, x43, x10, x11, x12, by simp only [Act.put, List.setIfInBounds_toArray, List.set_cons_zero, List.set_cons_succ], t0, tB, fun h => by have := tO (by simpa [upb] using h); simpa [upb] using this, fun h => (by obtain ⟨g, R, e, hg, hl, hr, ht⟩ := tP (by simpa [upb] using h); exact ⟨g, R, e, hg, hl, hr, fun h => ht (by simpa [upb] using h)⟩), fun h => p34 (by simpa [upb] using h), fun h => p35 (by simpa [upb] using h), fun h => p36 (by simpa [upb] using h), fun h => p37 (by simpa [upb] using h), fun h => p38 (by simpa [upb] using h), fun h => p39 (by simpa [upb] using h), fun h => p40 (by simpa [upb] using h), fun _ => rfl, fun _ => rfl, fun h => p42 (by simpa [upb] using h), fun h => p43 (by simpa [upb] using h), fun h => p11 (by simpa [upb] using h), fun h => p12 (by simpa [upb] using h)⟩
            case op9 =>
              rintro bb _ w' ⟨x34, x35, x36, x37, x38, x39, x40, x33, x41, x42, x43, x10, x11, x12, rfl, t0, tB, tO, tP, p34, p35, p36, p37, p38, p39, p40, p33, p41, p42, p43, p11, p12⟩ hb hd K hK
              simp only [Act.put, List.setIfInBounds_toArray, List.set_cons_zero, List.set_cons_succ]
              obtain rfl := p33 (hd 7 (by decide))
              rw [if_pos (by rfl)]
              go_simp
              exact hK _ _ ⟨x34, x35, x36, x37, x38, x39, x40, .tuple #[.agg (acs LN), .int .u16 AI, .bool true], x41, .int .u16 AI, x43, x10, x11, x12, by simp only [Act.put, List.setIfInBounds_toArray, List.set_cons_zero, List.set_cons_succ], t0, tB, fun h => by have := tO (by simpa [upb] using h); simpa [upb] using this, fun h => (by obtain ⟨g, R, e, hg, hl, hr, ht⟩ := tP (by simpa [upb] using h); exact ⟨g, R, e, hg, hl, hr, fun h => ht (by simpa [upb] using h)⟩), fun h => p34 (by simpa [upb] using h), fun h => p35 (by simpa [upb] using h), fun h => p36 (by simpa [upb] using h), fun h => p37 (by simpa [upb] using h), fun h => p38 (by simpa [upb] using h), fun h => p39 (by simpa [upb] using h), fun h => p40 (by simpa [upb] using h), fun _ => rfl, fun h => p41 (by simpa [upb] using h), fun _ => rfl, fun h => p43 (by simpa [upb] using h), fun h => p11 (by simpa [upb] using h), fun h => p12 (by simpa [upb] using h)⟩
            case op10 =>
              rintro bb _ w' ⟨x34, x35, x36, x37, x38, x39, x40, x33, x41, x42, x43, x10, x11, x12, rfl, t0, tB, tO, tP, p34, p35, p36, p37, p38, p39, p40, p33, p41, p42, p43, p11, p12⟩ hb hd K hK
              simp only [Act.put, List.setIfInBounds_toArray, List.set_cons_zero, List.set_cons_succ]
              obtain rfl := p33 (hd 7 (by decide))
              rw [if_pos (by rfl)]
              go_simp
              exact hK _ _ ⟨x34, x35, x36, x37, x38, x39, x40, .tuple #[.agg (acs LN), .int .u16 AI, .bool true], x41, x42, .bool true, x10, x11, x12, by simp only [Act.put, List.setIfInBounds_toArray, List.set_cons_zero, List.set_cons_succ], t0, tB, fun h => by have := tO (by simpa [upb] using h); simpa [upb] using this, fun h => (by obtain ⟨g, R, e, hg, hl, hr, ht⟩ := tP (by simpa [upb] using h); exact ⟨g, R, e, hg, hl, hr, fun h => ht (by simpa [upb] using h)⟩), fun h => p34 (by simpa [upb] using h), fun h => p35 (by simpa [upb] using h), fun h => p36 (by simpa [upb] using h), fun h => p37 (by simpa [upb] using h), fun h => p38 (by simpa [upb] using h), fun h => p39 (by simpa [upb] using h), fun h => p40 (by simpa [upb] using h), fun _ => rfl, fun h => p41 (by simpa [upb] using h), fun h => p42 (by simpa [upb] using h), fun _ => rfl, fun h => p11 (by simpa [upb] using h), fun h => p12 (by simpa [upb] using h)⟩
            case op11 =>
              rintro bb _ w' ⟨x34, x35, x36, x37, x38, x39, x40, x33, x41, x42, x43, x10, x11, x12, rfl, t0, tB, tO, tP, p34, p35, p36, p37, p38, p39, p40, p33, p41, p42, p43, p11, p12⟩ hb hd K hK
              simp only [Act.put, List.setIfInBounds_toArray, List.set_cons_zero, List.set_cons_succ]
              rw [if_pos (by rfl)]
              have hz := zero29' w'
              go_simp
              exact hK _ _ ⟨x34, x35, x36, x37, x38, x39, x40, x33, x41, x42, x43, (.pointer (some ⟨w'.heap.size, 0, none⟩)), x11, x12, by simp only [Act.put, List.setIfInBounds_toArray, List.set_cons_zero, List.set_cons_succ], t0.next ((Below.refl _ _).alloc (Nat.le_refl _) _), tB.alloc tB.size _, fun _ => by simp [upb], fun _ => ⟨w'.heap.size, Z0, rfl, t0.s.lt, lies_new _ _ _ rfl, Z0_len, fun h => (by have h2 := tO (by simpa [upb] using h); rw [hb] at h2; cases h2)⟩, fun h => p34 (by simpa [upb] using h), fun h => p35 (by simpa [upb] using h), fun h => p36 (by simpa [upb] using h), fun h => p37 (by simpa [upb] using h), fun h => p38 (by simpa [upb] using h), fun h => p39 (by simpa [upb] using h), fun h => p40 (by simpa [upb] using h), fun h => p33 (by simpa [upb] using h), fun h => p41 (by simpa [upb] using h), fun h => p42 (by simpa [upb] using h), fun h => p43 (by simpa [upb] using h), fun h => p11 (by simpa [upb] using h), fun h => p12 (by simpa [upb] using h)⟩
            case op12 =>
              rintro bb _ w' ⟨x34, x35, x36, x37, x38, x39, x40, x33, x41, x42, x43, x10, x11, x12, rfl, t0, tB, tO, tP, p34, p35, p36, p37, p38, p39, p40, p33, p41, p42, p43, p11, p12⟩ hb hd K hK
              simp only [Act.put, List.setIfInBounds_toArray, List.set_cons_zero, List.set_cons_succ]
              obtain rfl := p41 (hd 8 (by decide))
              rw [if_pos (by rfl)]
              obtain ⟨g, R, rfl, hg, hl, hr, ht⟩ := tP (hd 11 (by decide))
              refine wp_store_row 29 (.tmp 10) (.tmp 41) rfl _ _ rfl rfl _ _ hl IN.out (by rw [acs_size, acs_size, hr, PN.out.len]) (acs_one _) ?_
              try simp only [Act.put, List.setIfInBounds_toArray, List.set_cons_zero, List.set_cons_succ]
              exact hK _ _ ⟨x34, x35, x36, x37, x38, x39, x40, x33, .agg (acs LN), x42, x43, (.pointer (some ⟨g, 0, none⟩)), x11, x12, by simp only [Act.put, List.setIfInBounds_toArray, List.set_cons_zero, List.set_cons_succ], t0.row (by omega) _, below_setRow tB (by omega) _, fun _ => by first | (simp [upb]; done) | (have := hd 11 (by decide); simpa [upb] using this), fun _ => ⟨g, _, rfl, hg, hl.same _, PN.out.len, fun _ => rfl⟩, fun h => p34 (by simpa [upb] using h), fun h => p35 (by simpa [upb] using h), fun h => p36 (by simpa [upb] using h), fun h => p37 (by simpa [upb] using h), fun h => p38 (by simpa [upb] using h), fun h => p39 (by simpa [upb] using h), fun h => p40 (by simpa [upb] using h), fun h => p33 (by simpa [upb] using h), fun _ => rfl, fun h => p42 (by simpa [upb] using h), fun h => p43 (by simpa [upb] using h), fun h => p11 (by simpa [upb] using h), fun h => p12 (by simpa [upb] using h)⟩
            case op13 =>
              rintro bb _ w' ⟨x34, x35, x36, x37, x38, x39, x40, x33, x41, x42, x43, x10, x11, x12, rfl, t0, tB, tO, tP, p34, p35, p36, p37, p38, p39, p40, p33, p41, p42, p43, p11, p12⟩ hb hd K hK
              simp only [Act.put, List.setIfInBounds_toArray, List.set_cons_zero, List.set_cons_succ]
              obtain rfl := p42 (hd 9 (by decide))
              rw [if_pos (by rfl)]
              go_simp
              exact hK _ _ ⟨x34, x35, x36, x37, x38, x39, x40, x33, x41, .int .u16 AI, x43, x10, .int .u16 AI, x12, by simp only [Act.put, List.setIfInBounds_toArray, List.set_cons_zero, List.set_cons_succ], t0, tB, fun h => by have := tO (by simpa [upb] using h); simpa [upb] using this, fun h => (by obtain ⟨g, R, e, hg, hl, hr, ht⟩ := tP (by simpa [upb] using h); exact ⟨g, R, e, hg, hl, hr, fun h => ht (by simpa [upb] using h)⟩), fun h => p34 (by simpa [upb] using h), fun h => p35 (by simpa [upb] using h), fun h => p36 (by simpa [upb] using h), fun h => p37 (by simpa [upb] using h), fun h => p38 (by simpa [upb] using h), fun h => p39 (by simpa [upb] using h), fun h => p40 (by simpa [upb] using h), fun h => p33 (by simpa [upb] using h), fun h => p41 (by simpa [upb] using h), fun _ => rfl, fun h => p43 (by simpa [upb] using h), fun _ => rfl, fun h => p12 (by simpa [upb] using h)⟩
            case op14 =>
              rintro bb _ w' ⟨x34, x35, x36, x37, x38, x39, x40, x33, x41, x42, x43, x10, x11, x12, rfl, t0, tB, tO, tP, p34, p35, p36, p37, p38, p39, p40, p33, p41, p42, p43, p11, p12⟩ hb hd K hK
              simp only [Act.put, List.setIfInBounds_toArray, List.set_cons_zero, List.set_cons_succ]
              obtain rfl := p43 (hd 10 (by decide))
              rw [if_pos (by rfl)]
              go_simp
              exact hK _ _ ⟨x34, x35, x36, x37, x38, x39, x40, x33, x41, x42, .bool true, x10, x11, .bool true, by simp only [Act.put, List.setIfInBounds_toArray, List.set_cons_zero, List.set_cons_succ], t0, tB, fun h => by have := tO (by simpa [upb] using h); simpa [upb] using this, fun h => (by obtain ⟨g, R, e, hg, hl, hr, ht⟩ := tP (by simpa [upb] using h); exact ⟨g, R, e, hg, hl, hr, fun h => ht (by simpa [upb] using h)⟩), fun h => p34 (by simpa [upb] using h), fun h => p35 (by simpa [upb] using h), fun h => p36 (by simpa [upb] using h), fun h => p37 (by simpa [upb] using h), fun h => p38 (by simpa [upb] using h), fun h => p39 (by simpa [upb] using h), fun h => p40 (by simpa [upb] using h), fun h => p33 (by simpa [upb] using h), fun h => p41 (by simpa [upb] using h), fun h => p42 (by simpa [upb] using h), fun _ => rfl, fun h => p11 (by simpa [upb] using h), fun _ => rfl⟩
            case done =>
              rintro bb _ w' hb ⟨x34, x35, x36, x37, x38, x39, x40, x33, x41, x42, x43, x10, x11, x12, rfl, t0, tB, tO, tP, p34, p35, p36, p37, p38, p39, p40, p33, p41, p42, p43, p11, p12⟩
              obtain rfl := p34 (hb 0 (by decide))
              obtain rfl := p35 (hb 1 (by decide))
              obtain rfl := p36 (hb 2 (by decide))
              obtain rfl := p37 (hb 3 (by decide))
              obtain rfl := p38 (hb 4 (by decide))
              obtain rfl := p39 (hb 5 (by decide))
              obtain rfl := p40 (hb 6 (by decide))
              obtain rfl := p33 (hb 7 (by decide))
              obtain rfl := p41 (hb 8 (by decide))
              obtain rfl := p42 (hb 9 (by decide))
              obtain rfl := p43 (hb 10 (by decide))
              obtain rfl := p11 (hb 13 (by decide))
              obtain rfl := p12 (hb 14 (by decide))
              simp only [Act.put, List.setIfInBounds_toArray, List.set_cons_zero, List.set_cons_succ]
              obtain ⟨g, R, rfl, hg, hl, hr, ht⟩ := tP (hb 11 (by decide))
              rw [ht (hb 12 (by decide))] at hl
              clear tP tO ht hr
              clear hb p34 p35 p36 p37 p38 p39 p40 p33 p41 p42 p43 p11 p12
              have S2d := Lib.hid (t0.next ((Below.refl _ _).drew))
              have G2d := Lib.hid (hl.next ((Below.refl _ _).drew))
              have B2d := Lib.hid (tB.drew)
              clear t0 hl tB
              go_wp2_with fail
              refine wp_region_inv (fun a0 w0 b a' w' => ∃ x45 x46 x47 x48 x49 x50 x51 x44 x52 x53 x13 x14 : Value, a' = ((((((((((((a0.put (some 45) x45).put (some 46) x46).put (some 47) x47).put (some 48) x48).put (some 49) x49).put (some 50) x50).put (some 51) x51).put (some 44) x44).put (some 52) x52).put (some 53) x53).put (some 13) x13).put (some 14) x14) ∧ St w' w.heap.size L H L H ∧ Lies w' g LN ∧ Below w.heap.size w w' ∧ (b 11 = true → b 10 = true) ∧ (b 10 = true → ∃ g2 R, x13 = .pointer (some ⟨g2, 0, none⟩) ∧ g < g2 ∧ LiesR w' g2 R ∧ R.length = 128 ∧ (b 11 = true → R = LN)) ∧ (b 0 = true → x45 = .agg (rcs L)) ∧ (b 1 = true → x46 = .slice (some a) len cap) ∧ (b 2 = true → x47 = .int .i64 k) ∧ (b 3 = true → x48 = .pointer (some (a.add (k * 3)))) ∧ (b 4 = true → x49 = .pointer (some ⟨(a.add (k * 3)).block, (a.add (k * 3)).off + 2, none⟩)) ∧ (b 5 = true → x50 = .int .i64 (X k)) ∧ (b 6 = true → x51 = .tuple #[.agg (rcs LN), .int .i64 AI]) ∧ (b 7 = true → x44 = .tuple #[.agg (rcs LN), .int .i64 AI]) ∧ (b 8 = true → x52 = .agg (rcs LN)) ∧ (b 9 = true → x53 = .int .i64 AI) ∧ (b 12 = true → x14 = .int .i64 AI)) (by kernel_rfl) (by kernel_rfl) ?start ⟨?op0, ?op1, ?op2, ?op3, ?op4, ?op5, ?op6, ?op7, ?op8, ?op9, ?op10, ?op11, ?op12, trivial⟩ ?done
              case start => exact ⟨_, _, _, _, _, _, _, _, _, _, _, _, by simp only [Act.put, List.setIfInBounds_toArray, List.set_cons_zero, List.set_cons_succ]; rfl, S2d.out, G2d.out, B2d.out, fun h => absurd h (by decide), fun h => absurd h (by decide), fun h => absurd h (by decide), fun h => absurd h (by decide), fun h => absurd h (by decide), fun h => absurd h (by decide), fun h => absurd h (by decide), fun h => absurd h (by decide), fun h => absurd h (by decide), fun h => absurd h (by decide), fun h => absurd h (by decide), fun h => absurd h (by decide), fun h => absurd h (by decide)⟩
              case op0 =>
                rintro bb _ w' ⟨x45, x46, x47, x48, x49, x50, x51, x44, x52, x53, x13, x14, rfl, t0, tL, tB, tO, tP, p45, p46, p47, p48, p49, p50, p51, p44, p52, p53, p14⟩ hb hd K hK
                simp only [Act.put, List.setIfInBounds_toArray, List.set_cons_zero, List.set_cons_succ]
                rw [if_pos (by rfl)]
                refine wp_load_row 67 (.tmp 7) rfl _ rfl _ _ _ _ t0.w Try.underlying67 rfl ILR.out ?_
                try simp only [Act.put, List.setIfInBounds_toArray, List.set_cons_zero, List.set_cons_succ]
                exact hK _ _ ⟨.agg (rcs L), x46, x47, x48, x49, x50, x51, x44, x52, x53, x13, x14, by simp only [Act.put, List.setIfInBounds_toArray, List.set_cons_zero, List.set_cons_succ], t0, tL, tB, fun h => by have := tO (by simpa [upb] using h); simpa [upb] using this, fun h => (by obtain ⟨g2, R, e, hg2, hl2, hr, ht⟩ := tP (by simpa [upb] using h); exact ⟨g2, R, e, hg2, hl2, hr, fun h => ht (by simpa [upb] using h)⟩), fun _ => rfl, fun h => p46 (by simpa [upb] using h), fun h => p47 (by simpa [upb] using h), fun h => p48 (by simpa [upb] using h), fun h => p49 (by simpa [upb] using h), fun h => p50 (by simpa [upb] using h), fun h => p51 (by simpa [upb] using h), fun h => p44 (by simpa [upb] using h), fun h => p52 (by simpa [upb] using h), fun h => p53 (by simpa [upb] using h), fun h => p14 (by simpa [upb] using h)⟩
              case op1 =>
                rintro bb _ w' ⟨x45, x46, x47, x48, x49, x50, x51, x44, x52, x53, x13, x14, rfl, t0, tL, tB, tO, tP, p45, p46, p47, p48, p49, p50, p51, p44, p52, p53, p14⟩ hb hd K hK
                simp only [Act.put, List.setIfInBounds_toArray, List.set_cons_zero, List.set_cons_succ]
                rw [if_pos (by rfl)]
                go_simp
                exact hK _ _ ⟨x45, .slice (some a) len cap, x47, x48, x49, x50, x51, x44, x52, x53, x13, x14, by simp only [Act.put, List.setIfInBounds_toArray, List.set_cons_zero, List.set_cons_succ], t0, tL, tB, fun h => by have := tO (by simpa [upb] using h); simpa [upb] using this, fun h => (by obtain ⟨g2, R, e, hg2, hl2, hr, ht⟩ := tP (by simpa [upb] using h); exact ⟨g2, R, e, hg2, hl2, hr, fun h => ht (by simpa [upb] using h)⟩), fun h => p45 (by simpa [upb] using h), fun _ => rfl, fun h => p47 (by simpa [upb] using h), fun h => p48 (by simpa [upb] using h), fun h => p49 (by simpa [upb] using h), fun h => p50 (by simpa [upb] using h), fun h => p51 (by simpa [upb] using h), fun h => p44 (by simpa [upb] using h), fun h => p52 (by simpa [upb] using h), fun h => p53 (by simpa [upb] using h), fun h => p14 (by simpa [upb] using h)⟩
              case op2 =>
                rintro bb _ w' ⟨x45, x46, x47, x48, x49, x50, x51, x44, x52, x53, x13, x14, rfl, t0, tL, tB, tO, tP, p45, p46, p47, p48, p49, p50, p51, p44, p52, p53, p14⟩ hb hd K hK
                simp only [Act.put, List.setIfInBounds_toArray, List.set_cons_zero, List.set_cons_succ]
                rw [if_pos (by rfl)]
                go_simp
                exact hK _ _ ⟨x45, x46, .int .i64 k, x48, x49, x50, x51, x44, x52, x53, x13, x14, by simp only [Act.put, List.setIfInBounds_toArray, List.set_cons_zero, List.set_cons_succ], t0, tL, tB, fun h => by have := tO (by simpa [upb] using h); simpa [upb] using this, fun h => (by obtain ⟨g2, R, e, hg2, hl2, hr, ht⟩ := tP (by simpa [upb] using h); exact ⟨g2, R, e, hg2, hl2, hr, fun h => ht (by simpa [upb] using h)⟩), fun h => p45 (by simpa [upb] using h), fun h => p46 (by simpa [upb] using h), fun _ => rfl, fun h => p48 (by simpa [upb] using h), fun h => p49 (by simpa [upb] using h), fun h => p50 (by simpa [upb] using h), fun h => p51 (by simpa [upb] using h), fun h => p44 (by simpa [upb] using h), fun h => p52 (by simpa [upb] using h), fun h => p53 (by simpa [upb] using h), fun h => p14 (by simpa [upb] using h)⟩
              case op3 =>
                rintro bb _ w' ⟨x45, x46, x47, x48, x49, x50, x51, x44, x52, x53, x13, x14, rfl, t0, tL, tB, tO, tP, p45, p46, p47, p48, p49, p50, p51, p44, p52, p53, p14⟩ hb hd K hK
                simp only [Act.put, List.setIfInBounds_toArray, List.set_cons_zero, List.set_cons_succ]
                obtain rfl := p46 (hd 1 (by decide))
                obtain rfl := p47 (hd 2 (by decide))
                rw [if_pos (by rfl)]
                go_simp
                exact hK _ _ ⟨x45, .slice (some a) len cap, .int .i64 k, .pointer (some (a.add (k * 3))), x49, x50, x51, x44, x52, x53, x13, x14, by simp only [Act.put, List.setIfInBounds_toArray, List.set_cons_zero, List.set_cons_succ], t0, tL, tB, fun h => by have := tO (by simpa [upb] using h); simpa [upb] using this, fun h => (by obtain ⟨g2, R, e, hg2, hl2, hr, ht⟩ := tP (by simpa [upb] using h); exact ⟨g2, R, e, hg2, hl2, hr, fun h => ht (by simpa [upb] using h)⟩), fun h => p45 (by simpa [upb] using h), fun _ => rfl, fun _ => rfl, fun _ => rfl, fun h => p49 (by simpa [upb] using h), fun h => p50 (by simpa [upb] using h), fun h => p51 (by simpa [upb] using h), fun h => p44 (by simpa [upb] using h), fun h => p52 (by simpa [upb] using h), fun h => p53 (by simpa [upb] using h), fun h => p14 (by simpa [upb] using h)⟩
              case op4 =>
                rintro bb _ w' ⟨x45, x46, x47, x48, x49, x50, x51, x44, x52, x53, x13, x14, rfl, t0, tL, tB, tO, tP, p45, p46, p47, p48, p49, p50, p51, p44, p52, p53, p14⟩ hb hd K hK
                simp only [Act.put, List.setIfInBounds_toArray, List.set_cons_zero, List.set_cons_succ]
                obtain rfl := p48 (hd 3 (by decide))
                rw [if_pos (by rfl)]
                go_simp
                exact hK _ _ ⟨x45, x46, x47, .pointer (some (a.add (k * 3))), .pointer (some ⟨(a.add (k * 3)).block, (a.add (k * 3)).off + 2, none⟩), x50, x51, x44, x52, x53, x13, x14, by simp only [Act.put, List.setIfInBounds_toArray, List.set_cons_zero, List.set_cons_succ], t0, tL, tB, fun h => by have := tO (by simpa [upb] using h); simpa [upb] using this, fun h => (by obtain ⟨g2, R, e, hg2, hl2, hr, ht⟩ := tP (by simpa [upb] using h); exact ⟨g2, R, e, hg2, hl2, hr, fun h => ht (by simpa [upb] using h)⟩), fun h => p45 (by simpa [upb] using h), fun h => p46 (by simpa [upb] using h), fun h => p47 (by simpa [upb] using h), fun _ => rfl, fun _ => rfl, fun h => p50 (by simpa [upb] using h), fun h => p51 (by simpa [upb] using h), fun h => p44 (by simpa [upb] using h), fun h => p52 (by simpa [upb] using h), fun h => p53 (by simpa [upb] using h), fun h => p14 (by simpa [upb] using h)⟩
              case op5 =>
                rintro bb _ w' ⟨x45, x46, x47, x48, x49, x50, x51, x44, x52, x53, x13, x14, rfl, t0, tL, tB, tO, tP, p45, p46, p47, p48, p49, p50, p51, p44, p52, p53, p14⟩ hb hd K hK
                simp only [Act.put, List.setIfInBounds_toArray, List.set_cons_zero, List.set_cons_succ]
                obtain rfl := p49 (hd 4 (by decide))
                rw [if_pos (by rfl)]
                have tc := cell_next tB hax.out
                go_simp
                exact hK _ _ ⟨x45, x46, x47, x48, .pointer (some ⟨(a.add (k * 3)).block, (a.add (k * 3)).off + 2, none⟩), .int .i64 (X k), x51, x44, x52, x53, x13, x14, by simp only [Act.put, List.setIfInBounds_toArray, List.set_cons_zero, List.set_cons_succ], t0, tL, tB, fun h => by have := tO (by simpa [upb] using h); simpa [upb] using this, fun h => (by obtain ⟨g2, R, e, hg2, hl2, hr, ht⟩ := tP (by simpa [upb] using h); exact ⟨g2, R, e, hg2, hl2, hr, fun h => ht (by simpa [upb] using h)⟩), fun h => p45 (by simpa [upb] using h), fun h => p46 (by simpa [upb] using h), fun h => p47 (by simpa [upb] using h), fun h => p48 (by simpa [upb] using h), fun _ => rfl, fun _ => rfl, fun h => p51 (by simpa [upb] using h), fun h => p44 (by simpa [upb] using h), fun h => p52 (by simpa [upb] using h), fun h => p53 (by simpa [upb] using h), fun h => p14 (by simpa [upb] using h)⟩
              case op6 =>
                rintro bb _ w' ⟨x45, x46, x47, x48, x49, x50, x51, x44, x52, x53, x13, x14, rfl, t0, tL, tB, tO, tP, p45, p46, p47, p48, p49, p50, p51, p44, p52, p53, p14⟩ hb hd K hK
                simp only [Act.put, List.setIfInBounds_toArray, List.set_cons_zero, List.set_cons_succ]
                obtain rfl := p45 (hd 0 (by decide))
                obtain rfl := p50 (hd 5 (by decide))
                rw [if_pos (by rfl)]
                go_simp
                refine (HC2.out _).mono ?_; rintro e w4 ⟨rfl, hbel⟩
                try dsimp only
                exact hK _ _ ⟨.agg (rcs L), x46, x47, x48, x49, .int .i64 (X k), .tuple #[.agg (rcs LN), .int .i64 AI], x44, x52, x53, x13, x14, by simp only [Act.put, List.setIfInBounds_toArray, List.set_cons_zero, List.set_cons_succ], t0.next hbel, tL.next hbel, bnext tB (Nat.le_refl _) hbel, fun h => by have := tO (by simpa [upb] using h); simpa [upb] using this, fun h => (by obtain ⟨g2, R, e, hg2, hl2, hr, ht⟩ := tP (by simpa [upb] using h); exact ⟨g2, R, e, hg2, hl2.next hbel, hr, fun h => ht (by simpa [upb] using h)⟩), fun _ => rfl, fun h => p46 (by simpa [upb] using h), fun h => p47 (by simpa [upb] using h), fun h => p48 (by simpa [upb] using h), fun h => p49 (by simpa [upb] using h), fun _ => rfl, fun _ => rfl, fun h => p44 (by simpa [upb] using h), fun h => p52 (by simpa [upb] using h), fun h => p53 (by simpa [upb] using h), fun h => p14 (by simpa [upb] using h)⟩
              case op7 =>
                rintro bb _ w' ⟨x45, x46, x47, x48, x49, x50, x51, x44, x52, x53, x13, x14, rfl, t0, tL, tB, tO, tP, p45, p46, p47, p48, p49, p50, p51, p44, p52, p53, p14⟩ hb hd K hK
                simp only [Act.put, List.setIfInBounds_toArray, List.set_cons_zero, List.set_cons_succ]
                obtain rfl := p51 (hd 6 (by decide))
                rw [if_pos (by rfl)]
                go_simp
                exact hK _ _ ⟨x45, x46, x47, x48, x49, x50, .tuple #[.agg (rcs LN), .int .i64 AI], .tuple #[.agg (rcs LN), .int .i64 AI], x52, x53, x13, x14, by simp only [Act.put, List.setIfInBounds_toArray, List.set_cons_zero, List.set_cons_succ], t0, tL, tB, fun h => by have := tO (by simpa [upb] using h); simpa [upb] using this, fun h => (by obtain ⟨g2, R, e, hg2, hl2, hr, ht⟩ := tP (by simpa [upb] using h); exact ⟨g2, R, e, hg2, hl2, hr, fun h => ht (by simpa [upb] using h)⟩), fun h => p45 (by simpa [upb] using h), fun h => p46 (by simpa [upb] using h), fun h => p47 (by simpa [upb] using h), fun h => p48 (by simpa [upb] using h), fun h => p49 (by simpa [upb] using h), fun h => p50 (by simpa [upb] using h), fun _ => rfl, fun _ => rfl, fun h => p52 (by simpa [upb] using h), fun h => p53 (by simpa [upb] using h), fun h => p14 (by simpa [upb] using h)⟩
              case op8 =>
                rintro bb _ w' ⟨x45, x46, x47, x48, x49, x50, x51, x44, x52, x53, x13, x14, rfl, t0, tL, tB, tO, tP, p45, p46, p47, p48, p49, p50, p51, p44, p52, p53, p14⟩ hb hd K hK
                simp only [Act.put, List.setIfInBounds_toArray, List.set_cons_zero, List.set_cons_succ]
                obtain rfl := p44 (hd 7 (by decide))
                rw [if_pos (by rfl)]
                go_simp
                exact hK _ _ ⟨x45, x46, x47, x48, x49, x50, x51, .tuple #[.agg (rcs LN), .int .i64 AI], .agg (rcs LN), x53, x13, x14, by simp only [Act.put, List.setIfInBounds_toArray, List.set_cons_zero, List.set_cons_succ], t0, tL, tB, fun h => by have := tO (by simpa [upb] using h); simpa [upb] using this, fun h => (by obtain ⟨g2, R, e, hg2, hl2, hr, ht⟩ := tP (by simpa [upb] using h); exact ⟨g2, R, e, hg2, hl2, hr, fun h => ht (by simpa [upb] using h)⟩), fun h => p45 (by simpa [upb] using h), fun h => p46 (by simpa [upb] using h), fun h => p47 (by simpa [upb] using h), fun h => p48 (by simpa [upb] using h), fun h => p49 (by simpa [upb] using h), fun h => p50 (by simpa [upb] using h), fun h => p51 (by simpa [upb] using h), fun _ => rfl, fun _ => rfl, fun h => p53 (by simpa [upb] using h), fun h => p14 (by simpa [upb] using h)⟩
              case op9 =>
                rintro bb _ w' ⟨x45, x46, x47, x48, x49, x50, x51, x44, x52, x53, x13, x14, rfl, t0, tL, tB, tO, tP, p45, p46, p47, p48, p49, p50, p51, p44, p52, p53, p14⟩ hb hd K hK
                simp only [Act.put, List.setIfInBounds_toArray, List.set_cons_zero, List.set_cons_succ]
                obtain rfl := p44 (hd 7 (by decide))
                rw [if_pos (by rfl)]
                go_simp
                exact hK _ _ ⟨x45, x46, x47, x48, x49, x50, x51, .tuple #[.agg (rcs LN), .int .i64 AI], x52, .int .i64 AI, x13, x14, by simp only [Act.put, List.setIfInBounds_toArray, List.set_cons_zero, List.set_cons_succ], t0, tL, tB, fun h => by have := tO (by simpa [upb] using h); simpa [upb] using this, fun h => (by obtain ⟨g2, R, e, hg2, hl2, hr, ht⟩ := tP (by simpa [upb] using h); exact ⟨g2, R, e, hg2, hl2, hr, fun h => ht (by simpa [upb] using h)⟩), fun h => p45 (by simpa [upb] using h), fun h => p46 (by simpa [upb] using h), fun h => p47 (by simpa [upb] using h), fun h => p48 (by simpa [upb] using h), fun h => p49 (by simpa [upb] using h), fun h => p50 (by simpa [upb] using h), fun h => p51 (by simpa [upb] using h), fun _ => rfl, fun h => p52 (by simpa [upb] using h), fun _ => rfl, fun h => p14 (by simpa [upb] using h)⟩
              case op10 =>
                rintro bb _ w' ⟨x45, x46, x47, x48, x49, x50, x51, x44, x52, x53, x13, x14, rfl, t0, tL, tB, tO, tP, p45, p46, p47, p48, p49, p50, p51, p44, p52, p53, p14⟩ hb hd K hK
                simp only [Act.put, List.setIfInBounds_toArray, List.set_cons_zero, List.set_cons_succ]
                rw [if_pos (by rfl)]
                have hz := zero67' w'
                go_simp
                exact hK _ _ ⟨x45, x46, x47, x48, x49, x50, x51, x44, x52, x53, (.pointer (some ⟨w'.heap.size, 0, none⟩)), x14, by simp only [Act.put, List.setIfInBounds_toArray, List.set_cons_zero, List.set_cons_succ], t0.next ((Below.refl _ _).alloc (Nat.le_refl _) _), tL.next ((Below.refl _ _).alloc (Nat.le_refl _) _), tB.alloc tB.size _, fun _ => by simp [upb], fun _ => ⟨w'.heap.size, Z0, rfl, tL.lt, liesR_new _ _ _ rfl, Z0_len, fun h => (by have h2 := tO (by simpa [upb] using h); rw [hb] at h2; cases h2)⟩, fun h => p45 (by simpa [upb] using h), fun h => p46 (by simpa [upb] using h), fun h => p47 (by simpa [upb] using h), fun h => p48 (by simpa [upb] using h), fun h => p49 (by simpa [upb] using h), fun h => p50 (by simpa [upb] using h), fun h => p51 (by simpa [upb] using h), fun h => p44 (by simpa [upb] using h), fun h => p52 (by simpa [upb] using h), fun h => p53 (by simpa [upb] using h), fun h => p14 (by simpa [upb] using h)⟩
              case op11 =>
                rintro bb _ w' ⟨x45, x46, x47, x48, x49, x50, x51, x44, x52, x53, x13, x14, rfl, t0, tL, tB, tO, tP, p45, p46, p47, p48, p49, p50, p51, p44, p52, p53, p14⟩ hb hd K hK
                simp only [Act.put, List.setIfInBounds_toArray, List.set_cons_zero, List.set_cons_succ]
                obtain rfl := p52 (hd 8 (by decide))
                rw [if_pos (by rfl)]
                obtain ⟨g2, R, rfl, hg2, hl2, hr, ht⟩ := tP (hd 10 (by decide))
                refine wp_store_row 67 (.tmp 13) (.tmp 52) rfl _ _ rfl rfl _ _ hl2 IW.out (by rw [rcs_size, rcs_size, hr, PN.out.len]) (rcs_one _) ?_
                try simp only [Act.put, List.setIfInBounds_toArray, List.set_cons_zero, List.set_cons_succ]
                exact hK _ _ ⟨x45, x46, x47, x48, x49, x50, x51, x44, .agg (rcs LN), x53, (.pointer (some ⟨g2, 0, none⟩)), x14, by simp only [Act.put, List.setIfInBounds_toArray, List.set_cons_zero, List.set_cons_succ], t0.row (by omega) _, tL.row (by omega) _, below_setRow tB (by omega) _, fun _ => by first | (simp [upb]; done) | (have := hd 10 (by decide); simpa [upb] using this), fun _ => ⟨g2, _, rfl, hg2, hl2.same _, PN.out.len, fun _ => rfl⟩, fun h => p45 (by simpa [upb] using h), fun h => p46 (by simpa [upb] using h), fun h => p47 (by simpa [upb] using h), fun h => p48 (by simpa [upb] using h), fun h => p49 (by simpa [upb] using h), fun h => p50 (by simpa [upb] using h), fun h => p51 (by simpa [upb] using h), fun h => p44 (by simpa [upb] using h), fun _ => rfl, fun h => p53 (by simpa [upb] using h), fun h => p14 (by simpa [upb] using h)⟩
              case op12 =>
                rintro bb _ w' ⟨x45, x46, x47, x48, x49, x50, x51, x44, x52, x53, x13, x14, rfl, t0, tL, tB, tO, tP, p45, p46, p47, p48, p49, p50, p51, p44, p52, p53, p14⟩ hb hd K hK
                simp only [Act.put, List.setIfInBounds_toArray, List.set_cons_zero, List.set_cons_succ]
                obtain rfl := p53 (hd 9 (by decide))
                rw [if_pos (by rfl)]
                go_simp
                exact hK _ _ ⟨x45, x46, x47, x48, x49, x50, x51, x44, x52, .int .i64 AI, x13, .int .i64 AI, by simp only [Act.put, List.setIfInBounds_toArray, List.set_cons_zero, List.set_cons_succ], t0, tL, tB, fun h => by have := tO (by simpa [upb] using h); simpa [upb] using this, fun h => (by obtain ⟨g2, R, e, hg2, hl2, hr, ht⟩ := tP (by simpa [upb] using h); exact ⟨g2, R, e, hg2, hl2, hr, fun h => ht (by simpa [upb] using h)⟩), fun h => p45 (by simpa [upb] using h), fun h => p46 (by simpa [upb] using h), fun h => p47 (by simpa [upb] using h), fun h => p48 (by simpa [upb] using h), fun h => p49 (by simpa [upb] using h), fun h => p50 (by simpa [upb] using h), fun h => p51 (by simpa [upb] using h), fun h => p44 (by simpa [upb] using h), fun h => p52 (by simpa [upb] using h), fun _ => rfl, fun _ => rfl⟩
              case done =>
                rintro bb _ w' hb ⟨x45, x46, x47, x48, x49, x50, x51, x44, x52, x53, x13, x14, rfl, t0, tL, tB, tO, tP, p45, p46, p47, p48, p49, p50, p51, p44, p52, p53, p14⟩
                obtain rfl := p45 (hb 0 (by decide))
                obtain rfl := p46 (hb 1 (by decide))
                obtain rfl := p47 (hb 2 (by decide))
                obtain rfl := p48 (hb 3 (by decide))
                obtain rfl := p49 (hb 4 (by decide))
                obtain rfl := p50 (hb 5 (by decide))
                obtain rfl := p51 (hb 6 (by decide))
                obtain rfl := p44 (hb 7 (by decide))
                obtain rfl := p52 (hb 8 (by decide))
                obtain rfl := p53 (hb 9 (by decide))
                obtain rfl := p14 (hb 12 (by decide))
                simp only [Act.put, List.setIfInBounds_toArray, List.set_cons_zero, List.set_cons_succ]
                obtain ⟨g2, R, rfl, hg2, hl2, hr, ht⟩ := tP (hb 10 (by decide))
                rw [ht (hb 11 (by decide))] at hl2
                clear tP tO ht hr
                clear hb p45 p46 p47 p48 p49 p50 p51 p44 p52 p53 p14
                have HLg := Lib.hid tL
                have HLg2 := Lib.hid hl2
                have V1 := Lib.hid (t0.setA LN)
                have V0 := Lib.hid t0
                have VB1 := Lib.hid (below_setRow tB (Nat.le_refl _) (acs LN))
                have HLg2' := Lib.hid (hl2.row (by omega : g2 ≠ w.heap.size) (acs LN))
                have S3 := Lib.hid (V1.out.setW LN)
                have B3 := Lib.hid (below_setRow VB1.out (show w.heap.size ≤ w.heap.size + 1 + 1 by omega) (rcs LN))
                clear t0 tL hl2 tB
                have hge : ¬ AI < 0 := by omega
                by_cases hh : k = q
                · have hkq : ((k : Int) == (q : Int)) = true := by simp [hh]
                  have T1 := Lib.hid (S3.out.setH LN)
                  have T2 := Lib.hid (T1.out.setS LN)
                  have C1 := Lib.hid (below_setRow B3.out (show w.heap.size ≤ w.heap.size + 1 by omega) (acs LN))
                  have C2 := Lib.hid (below_setRow C1.out (show w.heap.size ≤ w.heap.size + 1 + 1 + 1 by omega) (rcs LN))
                  go_wp2_with (first | (refine wpList_load_row rfl 29 (.tmp 10) rfl _ rfl _ _ _ _ HLg.out Try.underlying29 rfl IN.out ?_) | (refine wpList_store_row rfl 29 (.tmp 5) (.tmp 54) rfl _ _ rfl rfl _ _ V0.out.a IN.out (by rw [acs_size, acs_size, PL.out.len, PN.out.len]) (acs_one _) ?_) | (refine wpList_load_row rfl 67 (.tmp 13) rfl _ rfl _ _ _ _ HLg2'.out Try.underlying67 rfl IW.out ?_) | (refine wpList_store_row rfl 67 (.tmp 7) (.tmp 55) rfl _ _ rfl rfl _ _ V1.out.w IW.out (by rw [rcs_size, rcs_size, PL.out.len, PN.out.len]) (rcs_one _) ?_) | (refine wpList_load_row rfl 29 (.tmp 5) rfl _ rfl _ _ _ _ S3.out.a Try.underlying29 rfl IN.out ?_) | (refine wpList_store_row rfl 29 (.tmp 6) (.tmp 126) rfl _ _ rfl rfl _ _ S3.out.h IN.out (by rw [acs_size, acs_size, PH.out.len, PN.out.len]) (acs_one _) ?_) | (refine wpList_load_row rfl 67 (.tmp 7) rfl _ rfl _ _ _ _ T1.out.w Try.underlying67 rfl IW.out ?_) | (refine wpList_store_row rfl 67 (.tmp 8) (.tmp 127) rfl _ _ rfl rfl _ _ T1.out.s IW.out (by rw [rcs_size, rcs_size, PH.out.len, PN.out.len]) (rcs_one _) ?_))
                  exact ⟨⟨k + 1, LN, LN, by go_num, by omega, PN.out, PN.out.more (by omega), T2.out, C2.out⟩, by simp [intOf]; omega⟩
                · have hkq : ((k : Int) == (q : Int)) = false := by simp; omega
                  go_wp2_with (first | (refine wpList_load_row rfl 29 (.tmp 10) rfl _ rfl _ _ _ _ HLg.out Try.underlying29 rfl IN.out ?_) | (refine wpList_store_row rfl 29 (.tmp 5) (.tmp 54) rfl _ _ rfl rfl _ _ V0.out.a IN.out (by rw [acs_size, acs_size, PL.out.len, PN.out.len]) (acs_one _) ?_) | (refine wpList_load_row rfl 67 (.tmp 13) rfl _ rfl _ _ _ _ HLg2'.out Try.underlying67 rfl IW.out ?_) | (refine wpList_store_row rfl 67 (.tmp 7) (.tmp 55) rfl _ _ rfl rfl _ _ V1.out.w IW.out (by rw [rcs_size, rcs_size, PL.out.len, PN.out.len]) (rcs_one _) ?_))
                  exact ⟨⟨k + 1, LN, H, by go_num, by omega, PN.out, PH.out, S3.out, B3.out⟩, by simp [intOf]; omega⟩
          | none =>
            obtain ⟨LN, hLN⟩ : ∃ A, A = addL L (X k) := ⟨_, rfl⟩
            have PN := Lib.hid (show Pv (k + 1) LN by rw [hLN]; exact hP.add (X k))
            have HC1 := Lib.hid (fun W => add_any L (X k) hP.len W)
            have HC2 := Lib.hid (fun W => addR_any L (X k) hP.len (fun j hj => by have := hP.gen j hj; omega) W)
            rw [← hLN] at HC1 HC2
            rw [show (firstF L).isSome = false by rw [hf]; rfl] at HC1
            have IN := Lib.hid (info29 LN PN.out.len)
            have IW := Lib.hid (info67 LN PN.out.len)
            obtain ⟨w1a, w1b⟩ := add_no hf
            rw [w1a] at HC2
            rw [w1b] at HC1
            clear w1a w1b hf
            have hax := Lib.hid (show w.cell? ⟨(a.add (k * 3)).block, (a.add (k * 3)).off + 2, none⟩ = some (.int .i64 (X k)) by
              have := HA.out.x k a h rfl
              rw [add_field a (k * 3) 2 (by omega)] at this
              exact this)
            have S1d := Lib.hid (S1.out.next ((Below.refl _ _).drew))
            have B1d := Lib.hid (B1.out.drew)
            clear hLN hP ai ai2 ax ax2 S1 B1
            go_wp2_with fail
            refine wp_region_inv (fun a0 w0 b a' w' => ∃ x34 x35 x36 x37 x38 x39 x40 x33 x41 x42 x43 x10 x11 x12 : Value, a' = ((((((((((((((a0.put (some 34) x34).put (some 35) x35).put (some 36) x36).put (some 37) x37).put (some 38) x38).put (some 39) x39).put (some 40) x40).put (some 33) x33).put (some 41) x41).put (some 42) x42).put (some 43) x43).put (some 10) x10).put (some 11) x11).put (some 12) x12) ∧ St w' w.heap.size L H L H ∧ Below w.heap.size w w' ∧ (b 12 = true → b 11 = true) ∧ (b 11 = true → ∃ g R, x10 = .pointer (some ⟨g, 0, none⟩) ∧ w.heap.size + 1 + 1 + 1 < g ∧ Lies w' g R ∧ R.length = 128 ∧ (b 12 = true → R = LN)) ∧ (b 0 = true → x34 = .agg (acs L)) ∧ (b 1 = true → x35 = .slice (some a) len cap) ∧ (b 2 = true → x36 = .int .i64 k) ∧ (b 3 = true → x37 = .pointer (some (a.add (k * 3)))) ∧ (b 4 = true → x38 = .pointer (some ⟨(a.add (k * 3)).block, (a.add (k * 3)).off + 2, none⟩)) ∧ (b 5 = true → x39 = .int .i64 (X k)) ∧ (b 6 = true → x40 = .tuple #[.agg (acs LN), .int .u16 0, .bool false]) ∧ (b 7 = true → x33 = .tuple #[.agg (acs LN), .int .u16 0, .bool false]) ∧ (b 8 = true → x41 = .agg (acs LN)) ∧ (b 9 = true → x42 = .int .u16 0) ∧ (b 10 = true → x43 = .bool false) ∧ (b 13 = true → x11 = .int .u16 0) ∧ (b 14 = true → x12 = .bool false)) (by kernel_rfl) (by kernel_rfl) ?start ⟨?op0, ?op1, ?op2, ?op3, ?op4, ?op5, ?op6, ?op7, ?op8, ?op9, ?op10, ?op11, ?op12, ?op13, ?op14, trivial⟩ ?done
            case start => exact ⟨_, _, _, _, _, _, _, _, _, _, _, _, _, _, by simp only [Act.put, List.setIfInBounds_toArray, List.set_cons_zero, List.set_cons_succ]; rfl, S1d.out, B1d.out, fun h => absurd h (by decide), fun h => absurd h (by decide), fun h => absurd h (by decide), fun h => absurd h (by decide), fun h => absurd h (by decide), fun h => absurd h (by decide), fun h => absurd h (by decide), fun h => absurd h (by decide), fun h => absurd h (by decide), fun h => absurd h (by decide), fun h => absurd h (by decide), fun h => absurd h (by decide), fun h => absurd h (by decide), fun h => absurd h (by decide), fun h => absurd h (by decide)⟩
            case op0 =>
              rintro bb _ w' ⟨x34, x35, x36, x37, x38, x39, x40, x33, x41, x42, x43, x10, x11, x12, rfl, t0, tB, tO, tP, p34, p35, p36, p37, p38, p39, p40, p33, p41, p42, p43, p11, p12⟩ hb hd K hK
              simp only [Act.put, List.setIfInBounds_toArray, List.set_cons_zero, List.set_cons_succ]
              rw [if_pos (by rfl)]
              refine wp_load_row 29 (.tmp 5) rfl _ rfl _ _ _ _ t0.a Try.underlying29 rfl IL.out ?_
              try simp only [Act.put, List.setIfInBounds_toArray, List.set_cons_zero, List.set_cons_succ]
              exact hK _ _ ⟨.agg (acs L), x35, x36, x37, x38, x39, x40, x33, x41, x42, x43, x10, x11, x12, by simp only [Act.put, List.setIfInBounds_toArray, List.set_cons_zero, List.set_cons_succ], t0, tB, fun h => by have := tO (by simpa [upb] using h); simpa [upb] using this, fun h => (by obtain ⟨g, R, e, hg, hl, hr, ht⟩ := tP (by simpa [upb] using h); exact ⟨g, R, e, hg, hl, hr, fun h => ht (by simpa [upb] using h)⟩), fun _ => rfl, fun h => p35 (by simpa [upb] using h), fun h => p36 (by simpa [upb] using h), fun h => p37 (by simpa [upb] using h), fun h => p38 (by simpa [upb] using h), fun h => p39 (by simpa [upb] using h), fun h => p40 (by simpa [upb] using h), fun h => p33 (by simpa [upb] using h), fun h => p41 (by simpa [upb] using h), fun h => p42 (by simpa [upb] using h), fun h => p43 (by simpa [upb] using h), fun h => p11 (by simpa [upb] using h), fun h => p12 (by simpa [upb] using h)⟩
            case op1 =>
              rintro bb _ w' ⟨x34, x35, x36, x37, x38, x39, x40, x33, x41, x42, x43, x10, x11, x12, rfl, t0, tB, tO, tP, p34, p35, p36, p37, p38, p39, p40, p33, p41, p42, p43, p11, p12⟩ hb hd K hK
              simp only [Act.put, List.setIfInBounds_toArray, List.set_cons_zero, List.set_cons_succ]
              rw [if_pos (by rfl)]
              go_simp
              exact hK _ _ ⟨x34, .slice (some a) len cap, x36, x37, x38, x39, x40, x33, x41, x42, x43, x10, x11, x12, by simp only [Act.put, List.setIfInBounds_toArray, List.set_cons_zero, List.set_cons_succ], t0, tB, fun h => by have := tO (by simpa [upb] using h); simpa [upb] using this, fun h => (by obtain ⟨g, R, e, hg, hl, hr, ht⟩ := tP (by simpa [upb] using h); exact ⟨g, R, e, hg, hl, hr, fun h => ht (by simpa [upb] using h)⟩), fun h => p34 (by simpa [upb] using h), fun _ => rfl, fun h => p36 (by simpa [upb] using h), fun h => p37 (by simpa [upb] using h), fun h => p38 (by simpa [upb] using h), fun h => p39 (by simpa [upb] using h), fun h => p40 (by simpa [upb] using h), fun h => p33 (by simpa [upb] using h), fun h => p41 (by simpa [upb] using h), fun h => p42 (by simpa [upb] using h), fun h => p43 (by simpa [upb] using h), fun h => p11 (by simpa [upb] using h), fun h => p12 (by simpa [upb] using h)⟩
            case op2 =>
              rintro bb _ w' ⟨x34, x35, x36, x37, x38, x39, x40, x33, x41, x42, x43, x10, x11, x12, rfl, t0, tB, tO, tP, p34, p35, p36, p37, p38, p39, p40, p33, p41, p42, p43, p11, p12⟩ hb hd K hK
              simp only [Act.put, List.setIfInBounds_toArray, List.set_cons_zero, List.set_cons_succ]
              rw [if_pos (by rfl)]
              go_simp
              exact hK _ _ ⟨x34, x35, .int .i64 k, x37, x38, x39, x40, x33, x41, x42, x43, x10, x11, x12, by simp only [Act.put, List.setIfInBounds_toArray, List.set_cons_zero, List.set_cons_succ], t0, tB, fun h => by have := tO (by simpa [upb] using h); simpa [upb] using this, fun h => (by obtain ⟨g, R, e, hg, hl, hr, ht⟩ := tP (by simpa [upb] using h); exact ⟨g, R, e, hg, hl, hr, fun h => ht (by simpa [upb] using h)⟩), fun h => p34 (by simpa [upb] using h), fun h => p35 (by simpa [upb] using h), fun _ => rfl, fun h => p37 (by simpa [upb] using h), fun h => p38 (by simpa [upb] using h), fun h => p39 (by simpa [upb] using h), fun h => p40 (by simpa [upb] using h), fun h => p33 (by simpa [upb] using h), fun h => p41 (by simpa [upb] using h), fun h => p42 (by simpa [upb] using h), fun h => p43 (by simpa [upb] using h), fun h => p11 (by simpa [upb] using h), fun h => p12 (by simpa [upb] using h)⟩
            case op3 =>
              rintro bb _ w' ⟨x34, x35, x36, x37, x38, x39, x40, x33, x41, x42, x43, x10, x11, x12, rfl, t0, tB, tO, tP, p34, p35, p36, p37, p38, p39, p40, p33, p41, p42, p43, p11, p12⟩ hb hd K hK
              simp only [Act.put, List.setIfInBounds_toArray, List.set_cons_zero, List.set_cons_succ]
              obtain rfl := p35 (hd 1 (by decide))
              obtain rfl := p36 (hd 2 (by decide))
              rw [if_pos (by rfl)]
              go_simp
              exact hK _ _ ⟨x34, .slice (some a) len cap, .int .i64 k, .pointer (some (a.add (k * 3))), x38, x39, x40, x33, x41, x42, x43, x10, x11, x12, by simp only [Act.put, List.setIfInBounds_toArray, List.set_cons_zero, List.set_cons_succ], t0, tB, fun h => by have := tO (by simpa [upb] using h); simpa [upb] using this, fun h => (by obtain ⟨g, R, e, hg, hl, hr, ht⟩ := tP (by simpa [upb] using h); exact ⟨g, R, e, hg, hl, hr, fun h => ht (by simpa [upb] using h)⟩), fun h => p34 (by simpa [upb] using h), fun _ => rfl, fun _ => rfl, fun _ => rfl, fun h => p38 (by simpa [upb] using h), fun h => p39 (by simpa [upb] using h), fun h => p40 (by simpa [upb] using h), fun h => p33 (by simpa [upb] using h), fun h => p41 (by simpa [upb] using h), fun h => p42 (by simpa [upb] using h), fun h => p43 (by simpa [upb] using h), fun h => p11 (by simpa [upb] using h), fun h => p12 (by simpa [upb] using h)⟩
            case op4 =>
              rintro bb _ w' ⟨x34, x35, x36, x37, x38, x39, x40, x33, x41, x42, x43, x10, x11, x12, rfl, t0, tB, tO, tP, p34, p35, p36, p37, p38, p39, p40, p33, p41, p42, p43, p11, p12⟩ hb hd K hK
              simp only [Act.put, List.setIfInBounds_toArray, List.set_cons_zero, List.set_cons_succ]
              obtain rfl := p37 (hd 3 (by decide))
              rw [if_pos (by rfl)]
              go_simp
              exact hK _ _ ⟨x34, x35, x36, .pointer (some (a.add (k * 3))), .pointer (some ⟨(a.add (k * 3)).block, (a.add (k * 3)).off + 2, none⟩), x39, x40, x33, x41, x42, x43, x10, x11, x12, by simp only [Act.put, List.setIfInBounds_toArray, List.set_cons_zero, List.set_cons_succ], t0, tB, fun h => by have := tO (by simpa [upb] using h); simpa [upb] using this, fun h => (by obtain ⟨g, R, e, hg, hl, hr, ht⟩ := tP (by simpa [upb] using h); exact ⟨g, R, e, hg, hl, hr, fun h => ht (by simpa [upb] using h)⟩), fun h => p34 (by simpa [upb] using h), fun h => p35 (by simpa [upb] using h), fun h => p36 (by simpa [upb] using h), fun _ => rfl, fun _ => rfl, fun h => p39 (by simpa [upb] using h), fun h => p40 (by simpa [upb] using h), fun h => p33 (by simpa [upb] using h), fun h => p41 (by simpa [upb] using h), fun h => p42 (by simpa [upb] using h), fun h => p43 (by simpa [upb] using h), fun h => p11 (by simpa [upb] using h), fun h => p12 (by simpa [upb] using h)⟩
            case op5 =>
              rintro bb _ w' ⟨x34, x35, x36, x37, x38, x39, x40, x33, x41, x42, x43, x10, x11, x12, rfl, t0, tB, tO, tP, p34, p35, p36, p37, p38, p39, p40, p33, p41, p42, p43, p11, p12⟩ hb hd K hK
              simp only [Act.put, List.setIfInBounds_toArray, List.set_cons_zero, List.set_cons_succ]
              obtain rfl := p38 (hd 4 (by decide))
              rw [if_pos (by rfl)]
              have tc := cell_next tB hax.out
              go_simp
              exact hK _ _ ⟨x34, x35, x36, x37, .pointer (some ⟨(a.add (k * 3)).block, (a.add (k * 3)).off + 2, none⟩), .int .i64 (X k), x40, x33, x41, x42, x43, x10, x11, x12, by simp only [Act.put, List.setIfInBounds_toArray, List.set_cons_zero, List.set_cons_succ], t0, tB, fun h => by have := tO (by simpa [upb] using h); simpa [upb] using this, fun h => (by obtain ⟨g, R, e, hg, hl, hr, ht⟩ := tP (by simpa [upb] using h); exact ⟨g, R, e, hg, hl, hr, fun h => ht (by simpa [upb] using h)⟩), fun h => p34 (by simpa [upb] using h), fun h => p35 (by simpa [upb] using h), fun h => p36 (by simpa [upb] using h), fun h => p37 (by simpa [upb] using h), fun _ => rfl, fun _ => rfl, fun h => p40 (by simpa [upb] using h), fun h => p33 (by simpa [upb] using h), fun h => p41 (by simpa [upb] using h), fun h => p42 (by simpa [upb] using h), fun h => p43 (by simpa [upb] using h), fun h => p11 (by simpa [upb] using h), fun h => p12 (by simpa [upb] using h)⟩
            case op6 =>
              rintro bb _ w' ⟨x34, x35, x36, x37, x38, x39, x40, x33, x41, x42, x43, x10, x11, x12, rfl, t0, tB, tO, tP, p34, p35, p36, p37, p38, p39, p40, p33, p41, p42, p43, p11, p12⟩ hb hd K hK
              simp only [Act.put, List.setIfInBounds_toArray, List.set_cons_zero, List.set_cons_succ]
              obtain rfl := p34 (hd 0 (by decide))
              obtain rfl := p39 (hd 5 (by decide))
              rw [if_pos (by rfl)]
              go_simp
              refine (HC1.out _).mono ?_; rintro e w4 ⟨rfl, hbel⟩
              try dsimp only
              exact hK _ _ ⟨.agg (acs L), x35, x36, x37, x38, .int .i64 (X k), .tuple #[.agg (acs LN), .int .u16 0, .bool false], x33, x41, x42, x43, x10, x11, x12, by simp only [Act.put, List.setIfInBounds_toArray, List.set_cons_zero, List.set_cons_succ], t0.next hbel, bnext tB (Nat.le_refl _) hbel, fun h => by have := tO (by simpa [upb] using h); simpa [upb] using this, fun h => (by obtain ⟨g, R, e, hg, hl, hr, ht⟩ := tP (by simpa [upb] using h); exact ⟨g, R, e, hg, hl.next hbel, hr, fun h => ht (by simpa [upb] using h)⟩), fun _ => rfl, fun h => p35 (by simpa [upb] using h), fun h => p36 (by simpa [upb] using h), fun h => p37 (by simpa [upb] using h), fun h => p38 (by simpa [upb] using h), fun _ => rfl, fun _ => rfl, fun h => p33 (by simpa [upb] using h), fun h => p41 (by simpa [upb] using h), fun h => p42 (by simpa [upb] using h), fun h => p43 (by simpa [upb] using h), fun h => p11 (by simpa [upb] using h), fun h => p12 (by simpa [upb] using h)⟩
            case op7 =>
              rintro bb _ w' ⟨x34, x35, x36, x37, x38, x39, x40, x33, x41, x42, x43, x10, x11, x12, rfl, t0, tB, tO, tP, p34, p35, p36, p37, p38, p39, p40, p33, p41, p42, p43, p11, p12⟩ hb hd K hK
              simp only [Act.put, List.setIfInBounds_toArray, List.set_cons_zero, List.set_cons_succ]
              obtain rfl := p40 (hd 6 (by decide))
              rw [if_pos (by rfl)]
              go_simp
              exact hK _ _ ⟨x34, x35, x36, x37, x38, x39, .tuple #[.agg (acs LN), .int .u16 0, .bool false], .tuple #[.agg (acs LN), .int .u16 0, .bool false], x41, x42, x43, x10, x11, x12, by simp only [Act.put, List.setIfInBounds_toArray, List.set_cons_zero, List.set_cons_succ], t0, tB, fun h => by have := tO (by simpa [upb] using h); simpa [upb] using this, fun h => (by obtain ⟨g, R, e, hg, hl, hr, ht⟩ := tP (by simpa [upb] using h); exact ⟨g, R, e, hg, hl, hr, fun h => ht (by simpa [upb] using h)⟩), fun h => p34 (by simpa [upb] using h), fun h => p35 (by simpa [upb] using h), fun h => p36 (by simpa [upb] using h), fun h => p37 (by simpa [upb] using h), fun h => p38 (by simpa [upb] using h), fun h => p39 (by simpa [upb] using h), fun _ => rfl, fun _ => rfl, fun h => p41 (by simpa [upb] using h), fun h => p42 (by simpa [upb] using h), fun h => p43 (by simpa [upb] using h), fun h => p11 (by simpa [upb] using h), fun h => p12 (by simpa [upb] using h)⟩
            case op8 =>
              rintro bb _ w' ⟨x34, x35, x36, x37, x38, x39, x40, x33, x41, x42, x43, x10, x11, x12, rfl, t0, tB, tO, tP, p34, p35, p36, p37, p38, p39, p40, p33, p41, p42, p43, p11, p12⟩ hb hd K hK
              simp only [Act.put, List.setIfInBounds_toArray, List.set_cons_zero, List.set_cons_succ]
              obtain rfl := p33 (hd 7 (by decide))
              rw [if_pos (by rfl)]
              go_simp
              exact hK _ _ ⟨x34, x35, x36, x37, x38, x39, x40, .tuple #[.agg (acs LN), .int .u16 0, .bool false], .agg (acs LN), x42, x43, x10, x11, x12, by simp only [Act.put, List.setIfInBounds_toArray, List.set_cons_zero, List.set_cons_succ], t0, tB, fun h => by have := tO (by simpa [upb] using h); simpa [upb] using this, fun h => (by obtain ⟨g, R, e, hg, hl, hr, ht⟩ := tP (by simpa [upb] using h); exact ⟨g, R, e, hg, hl, hr, fun h => ht (by simpa [upb] using h)⟩), fun h => p34 (by simpa [upb] using h), fun h => p35 (by simpa [upb] using h), fun h => p36 (by simpa [upb] using h), fun h => p37 (by simpa [upb] using h), fun h => p38 (by simpa [upb] using h), fun h => p39 (by simpa [upb] using h), fun h => p40 (by simpa [upb] using h), fun _ => rfl, fun _ => rfl, fun h => p42 (by simpa [upb] using h), fun h => p43 (by simpa [upb] using h), fun h => p11 (by simpa [upb] using h), fun h => p12 (by simpa [upb] using h)⟩
            case op9 =>
              rintro bb _ w' ⟨x34, x35, x36, x37, x38, x39, x40, x33, x41, x42, x43, x10, x11, x12, rfl, t0, tB, tO, tP, p34, p35, p36, p37, p38, p39, p40, p33, p41, p42, p43, p11, p12⟩ hb hd K hK
              simp only [Act.put, List.setIfInBounds_toArray, List.set_cons_zero, List.set_cons_succ]
              obtain rfl := p33 (hd 7 (by decide))
              rw [if_pos (by rfl)]
              go_simp
              exact hK _ _ ⟨x34, x35, x36, x37, x38, x39, x40, .tuple #[.agg (acs LN), .int .u16 0, .bool false], x41, .int .u16 0, x43, x10, x11, x12, by simp only [Act.put, List.setIfInBounds_toArray, List.set_cons_zero, List.set_cons_succ], t0, tB, fun h => by have := tO (by simpa [upb] using h); simpa [upb] using this, fun h => (by obtain ⟨g, R, e, hg, hl, hr, ht⟩ := tP (by simpa [upb] using h); exact ⟨g, R, e, hg, hl, hr, fun h => ht (by simpa [upb] using h)⟩), fun h => p34 (by simpa [upb] using h), fun h => p35 (by simpa [upb] using h), fun h => p36 (by simpa [upb] using h), fun h => p37 (by simpa [upb] using h), fun h => p38 (by simpa [upb] using h), fun h => p39 (by simpa [upb] using h), fun h => p40 (by simpa [upb] using h), fun _ => rfl, fun h => p41 (by simpa [upb] using h), fun _ => rfl, fun h => p43 (by simpa [upb] using h), fun h => p11 (by simpa [upb] using h), fun h => p12 (by simpa [upb] using h)⟩
            case op10 =>
              rintro bb _ w' ⟨x34, x35, x36, x37, x38, x39, x40, x33, x41, x42, x43, x10, x11, x12, rfl, t0, tB, tO, tP, p34, p35, p36, p37, p38, p39, p40, p33, p41, p42, p43, p11, p12⟩ hb hd K hK
              simp only [Act.put, List.setIfInBounds_toArray, List.set_cons_zero, List.set_cons_succ]
              obtain rfl := p33 (hd 7 (by decide))
              rw [if_pos (by rfl)]
              go_simp
              exact hK _ _ ⟨x34, x35, x36, x37, x38, x39, x40, .tuple #[.agg (acs LN), .int .u16 0, .bool false], x41, x42, .bool false, x10, x11, x12, by simp only [Act.put, List.setIfInBounds_toArray, List.set_cons_zero, List.set_cons_succ], t0, tB, fun h => by have := tO (by simpa [upb] using h); simpa [upb] using this, fun h => (by obtain ⟨g, R, e, hg, hl, hr, ht⟩ := tP (by simpa [upb] using h); exact ⟨g, R, e, hg, hl, hr, fun h => ht (by simpa [upb] using h)⟩), fun h => p34 (by simpa [upb] using h), fun h => p35 (by simpa [upb] using h), fun h => p36 (by simpa [upb] using h), fun h => p37 (by simpa [upb] using h), fun h => p38 (by simpa [upb] using h), fun h => p39 (by simpa [upb] using h), fun h => p40 (by simpa [upb] using h), fun _ => rfl, fun h => p41 (by simpa [upb] using h), fun h => p42 (by simpa [upb] using h), fun _ => rfl, fun h => p11 (by simpa [upb] using h), fun h => p12 (by simpa [upb] using h)⟩
            case op11 =>
              rintro bb _ w' ⟨x34, x35, x36, x37, x38, x39, x40, x33, x41, x42, x43, x10, x11, x12, rfl, t0, tB, tO, tP, p34, p35, p36, p37, p38, p39, p40, p33, p41, p42, p43, p11, p12⟩ hb hd K hK
              simp only [Act.put, List.setIfInBounds_toArray, List.set_cons_zero, List.set_cons_succ]
              rw [if_pos (by rfl)]
              have hz := zero29' w'
              go_simp
              exact hK _ _ ⟨x34, x35, x36, x37, x38, x39, x40, x33, x41, x42, x43, (.pointer (some ⟨w'.heap.size, 0, none⟩)), x11, x12, by simp only [Act.put, List.setIfInBounds_toArray, List.set_cons_zero, List.set_cons_succ], t0.next ((Below.refl _ _).alloc (Nat.le_refl _) _), tB.alloc tB.size _, fun _ => by simp [upb], fun _ => ⟨w'.heap.size, Z0, rfl, t0.s.lt, lies_new _ _ _ rfl, Z0_len, fun h => (by have h2 := tO (by simpa [upb] using h); rw [hb] at h2; cases h2)⟩, fun h => p34 (by simpa [upb] using h), fun h => p35 (by simpa [upb] using h), fun h => p36 (by simpa [upb] using h), fun h => p37 (by simpa [upb] using h), fun h => p38 (by simpa [upb] using h), fun h => p39 (by simpa [upb] using h), fun h => p40 (by simpa [upb] using h), fun h => p33 (by simpa [upb] using h), fun h => p41 (by simpa [upb] using h), fun h => p42 (by simpa [upb] using h), fun h => p43 (by simpa [upb] using h), fun h => p11 (by simpa [upb] using h), fun h => p12 (by simpa [upb] using h)⟩
            case op12 =>
              rintro bb _ w' ⟨x34, x35, x36, x37, x38, x39, x40, x33, x41, x42, x43, x10, x11, x12, rfl, t0, tB, tO, tP, p34, p35, p36, p37, p38, p39, p40, p33, p41, p42, p43, p11, p12⟩ hb hd K hK
              simp only [Act.put, List.setIfInBounds_toArray, List.set_cons_zero, List.set_cons_succ]
              obtain rfl := p41 (hd 8 (by decide))
              rw [if_pos (by rfl)]
              obtain ⟨g, R, rfl, hg, hl, hr, ht⟩ := tP (hd 11 (by decide))
              refine wp_store_row 29 (.tmp 10) (.tmp 41) rfl _ _ rfl rfl _ _ hl IN.out (by rw [acs_size, acs_size, hr, PN.out.len]) (acs_one _) ?_
              try simp only [Act.put, List.setIfInBounds_toArray, List.set_cons_zero, List.set_cons_succ]
              exact hK _ _ ⟨x34, x35, x36, x37, x38, x39, x40, x33, .agg (acs LN), x42, x43, (.pointer (some ⟨g, 0, none⟩)), x11, x12, by simp only [Act.put, List.setIfInBounds_toArray, List.set_cons_zero, List.set_cons_succ], t0.row (by omega) _, below_setRow tB (by omega) _, fun _ => by first | (simp [upb]; done) | (have := hd 11 (by decide); simpa [upb] using this), fun _ => ⟨g, _, rfl, hg, hl.same _, PN.out.len, fun _ => rfl⟩, fun h => p34 (by simpa [upb] using h), fun h => p35 (by simpa [upb] using h), fun h => p36 (by simpa [upb] using h), fun h => p37 (by simpa [upb] using h), fun h => p38 (by simpa [upb] using h), fun h => p39 (by simpa [upb] using h), fun h => p40 (by simpa [upb] using h), fun h => p33 (by simpa [upb] using h), fun _ => rfl, fun h => p42 (by simpa [upb] using h), fun h => p43 (by simpa [upb] using h), fun h => p11 (by simpa [upb] using h), fun h => p12 (by simpa [upb] using h)⟩
            case op13 =>
              rintro bb _ w' ⟨x34, x35, x36, x37, x38, x39, x40, x33, x41, x42, x43, x10, x11, x12, rfl, t0, tB, tO, tP, p34, p35, p36, p37, p38, p39, p40, p33, p41, p42, p43, p11, p12⟩ hb hd K hK
              simp only [Act.put, List.setIfInBounds_toArray, List.set_cons_zero, List.set_cons_succ]
              obtain rfl := p42 (hd 9 (by decide))
              rw [if_pos (by rfl)]
              go_simp
              exact hK _ _ ⟨x34, x35, x36, x37, x38, x39, x40, x33, x41, .int .u16 0, x43, x10, .int .u16 0, x12, by simp only [Act.put, List.setIfInBounds_toArray, List.set_cons_zero, List.set_cons_succ], t0, tB, fun h => by have := tO (by simpa [upb] using h); simpa [upb] using this, fun h => (by obtain ⟨g, R, e, hg, hl, hr, ht⟩ := tP (by simpa [upb] using h); exact ⟨g, R, e, hg, hl, hr, fun h => ht (by simpa [upb] using h)⟩), fun h => p34 (by simpa [upb] using h), fun h => p35 (by simpa [upb] using h), fun h => p36 (by simpa [upb] using h), fun h => p37 (by simpa [upb] using h), fun h => p38 (by simpa [upb] using h), fun h => p39 (by simpa [upb] using h), fun h => p40 (by simpa [upb] using h), fun h => p33 (by simpa [upb] using h), fun h => p41 (by simpa [upb] using h), fun _ => rfl, fun h => p43 (by simpa [upb] using h), fun _ => rfl, fun h => p12 (by simpa [upb] using h)⟩
            case op14 =>
              rintro bb _ w' ⟨x34, x35, x36, x37, x38, x39, x40, x33, x41, x42, x43, x10, x11, x12, rfl, t0, tB, tO, tP, p34, p35, p36, p37, p38, p39, p40, p33, p41, p42, p43, p11, p12⟩ hb hd K hK
              simp only [Act.put, List.setIfInBounds_toArray, List.set_cons_zero, List.set_cons_succ]
              obtain rfl := p43 (hd 10 (by decide))
              rw [if_pos (by rfl)]
              go_simp
              exact hK _ _ ⟨x34, x35, x36, x37, x38, x39, x40, x33, x41, x42, .bool false, x10, x11, .bool false, by simp only [Act.put, List.setIfInBounds_toArray, List.set_cons_zero, List.set_cons_succ], t0, tB, fun h => by have := tO (by simpa [upb] using h); simpa [upb] using this, fun h => (by obtain ⟨g, R, e, hg, hl, hr, ht⟩ := tP (by simpa [upb] using h); exact ⟨g, R, e, hg, hl, hr, fun h => ht (by simpa [upb] using h)⟩), fun h => p34 (by simpa [upb] using h), fun h => p35 (by simpa [upb] using h), fun h => p36 (by simpa [upb] using h), fun h => p37 (by simpa [upb] using h), fun h => p38 (by simpa [upb] using h), fun h => p39 (by simpa [upb] using h), fun h => p40 (by simpa [upb] using h), fun h => p33 (by simpa [upb] using h), fun h => p41 (by simpa [upb] using h), fun h => p42 (by simpa [upb] using h), fun _ => rfl, fun h => p11 (by simpa [upb] using h), fun _ => rfl⟩
            case done =>
              rintro bb _ w' hb ⟨x34, x35, x36, x37, x38, x39, x40, x33, x41, x42, x43, x10, x11, x12, rfl, t0, tB, tO, tP, p34, p35, p36, p37, p38, p39, p40, p33, p41, p42, p43, p11, p12⟩
              obtain rfl := p34 (hb 0 (by decide))
              obtain rfl := p35 (hb 1 (by decide))
              obtain rfl := p36 (hb 2 (by decide))
              obtain rfl := p37 (hb 3 (by decide))
              obtain rfl := p38 (hb 4 (by decide))
              obtain rfl := p39 (hb 5 (by decide))
              obtain rfl := p40 (hb 6 (by decide))
              obtain rfl := p33 (hb 7 (by decide))
              obtain rfl := p41 (hb 8 (by decide))
              obtain rfl := p42 (hb 9 (by decide))
              obtain rfl := p43 (hb 10 (by decide))
              obtain rfl := p11 (hb 13 (by decide))
              obtain rfl := p12 (hb 14 (by decide))
              simp only [Act.put, List.setIfInBounds_toArray, List.set_cons_zero, List.set_cons_succ]
              obtain ⟨g, R, rfl, hg, hl, hr, ht⟩ := tP (hb 11 (by decide))
              rw [ht (hb 12 (by decide))] at hl
              clear tP tO ht hr
              clear hb p34 p35 p36 p37 p38 p39 p40 p33 p41 p42 p43 p11 p12
              have S2d := Lib.hid (t0.next ((Below.refl _ _).drew))
              have G2d := Lib.hid (hl.next ((Below.refl _ _).drew))
              have B2d := Lib.hid (tB.drew)
              clear t0 hl tB
              go_wp2_with fail
              refine wp_region_inv (fun a0 w0 b a' w' => ∃ x45 x46 x47 x48 x49 x50 x51 x44 x52 x53 x13 x14 : Value, a' = ((((((((((((a0.put (some 45) x45).put (some 46) x46).put (some 47) x47).put (some 48) x48).put (some 49) x49).put (some 50) x50).put (some 51) x51).put (some 44) x44).put (some 52) x52).put (some 53) x53).put (some 13) x13).put (some 14) x14) ∧ St w' w.heap.size L H L H ∧ Lies w' g LN ∧ Below w.heap.size w w' ∧ (b 11 = true → b 10 = true) ∧ (b 10 = true → ∃ g2 R, x13 = .pointer (some ⟨g2, 0, none⟩) ∧ g < g2 ∧ LiesR w' g2 R ∧ R.length = 128 ∧ (b 11 = true → R = LN)) ∧ (b 0 = true → x45 = .agg (rcs L)) ∧ (b 1 = true → x46 = .slice (some a) len cap) ∧ (b 2 = true → x47 = .int .i64 k) ∧ (b 3 = true → x48 = .pointer (some (a.add (k * 3)))) ∧ (b 4 = true → x49 = .pointer (some ⟨(a.add (k * 3)).block, (a.add (k * 3)).off + 2, none⟩)) ∧ (b 5 = true → x50 = .int .i64 (X k)) ∧ (b 6 = true → x51 = .tuple #[.agg (rcs LN), .int .i64 (-1)]) ∧ (b 7 = true → x44 = .tuple #[.agg (rcs LN), .int .i64 (-1)]) ∧ (b 8 = true → x52 = .agg (rcs LN)) ∧ (b 9 = true → x53 = .int .i64 (-1)) ∧ (b 12 = true → x14 = .int .i64 (-1))) (by kernel_rfl) (by kernel_rfl) ?start ⟨?op0, ?op1, ?op2, ?op3, ?op4, ?op5, ?op6, ?op7, ?op8, ?op9, ?op10, ?op11, ?op12, trivial⟩ ?done
              case start => exact ⟨_, _, _, _, _, _, _, _, _, _, _, _, by simp only [Act.put, List.setIfInBounds_toArray, List.set_cons_zero, List.set_cons_succ]; rfl, S2d.out, G2d.out, B2d.out, fun h => absurd h (by decide), fun h => absurd h (by decide), fun h => absurd h (by decide), fun h => absurd h (by decide), fun h => absurd h (by decide), fun h => absurd h (by decide), fun h => absurd h (by decide), fun h => absurd h (by decide), fun h => absurd h (by decide), fun h => absurd h (by decide), fun h => absurd h (by decide), fun h => absurd h (by decide), fun h => absurd h (by decide)⟩
              case op0 =>
                rintro bb _ w' ⟨x45, x46, x47, x48, x49, x50, x51, x44, x52, x53, x13, x14, rfl, t0, tL, tB, tO, tP, p45, p46, p47, p48, p49, p50, p51, p44, p52, p53, p14⟩ hb hd K hK
                simp only [Act.put, List.setIfInBounds_toArray, List.set_cons_zero, List.set_cons_succ]
                rw [if_pos (by rfl)]
                refine wp_load_row 67 (.tmp 7) rfl _ rfl _ _ _ _ t0.w Try.underlying67 rfl ILR.out ?_
                try simp only [Act.put, List.setIfInBounds_toArray, List.set_cons_zero, List.set_cons_succ]
                exact hK _ _ ⟨.agg (rcs L), x46, x47, x48, x49, x50, x51, x44, x52, x53, x13, x14, by simp only [Act.put, List.setIfInBounds_toArray, List.set_cons_zero, List.set_cons_succ], t0, tL, tB, fun h => by have := tO (by simpa [upb] using h); simpa [upb] using this, fun h => (by obtain ⟨g2, R, e, hg2, hl2, hr, ht⟩ := tP (by simpa [upb] using h); exact ⟨g2, R, e, hg2, hl2, hr, fun h => ht (by simpa [upb] using h)⟩), fun _ => rfl, fun h => p46 (by simpa [upb] using h), fun h => p47 (by simpa [upb] using h), fun h => p48 (by simpa [upb] using h), fun h => p49 (by simpa [upb] using h), fun h => p50 (by simpa [upb] using h), fun h => p51 (by simpa [upb] using h), fun h => p44 (by simpa [upb] using h), fun h => p52 (by simpa [upb] using h), fun h => p53 (by simpa [upb] using h), fun h => p14 (by simpa [upb] using h)⟩
              case op1 =>
                rintro bb _ w' ⟨x45, x46, x47, x48, x49, x50, x51, x44, x52, x53, x13, x14, rfl, t0, tL, tB, tO, tP, p45, p46, p47, p48, p49, p50, p51, p44, p52, p53, p14⟩ hb hd K hK
                simp only [Act.put, List.setIfInBounds_toArray, List.set_cons_zero, List.set_cons_succ]
                rw [if_pos (by rfl)]
                go_simp
                exact hK _ _ ⟨x45, .slice (some a) len cap, x47, x48, x49, x50, x51, x44, x52, x53, x13, x14, by simp only [Act.put, List.setIfInBounds_toArray, List.set_cons_zero, List.set_cons_succ], t0, tL, tB, fun h => by have := tO (by simpa [upb] using h); simpa [upb] using this, fun h => (by obtain ⟨g2, R, e, hg2, hl2, hr, ht⟩ := tP (by simpa [upb] using h); exact ⟨g2, R, e, hg2, hl2, hr, fun h => ht (by simpa [upb] using h)⟩), fun h => p45 (by simpa [upb] using h), fun _ => rfl, fun h => p47 (by simpa [upb] using h), fun h => p48 (by simpa [upb] using h), fun h => p49 (by simpa [upb] using h), fun h => p50 (by simpa [upb] using h), fun h => p51 (by simpa [upb] using h), fun h => p44 (by simpa [upb] using h), fun h => p52 (by simpa [upb] using h), fun h => p53 (by simpa [upb] using h), fun h => p14 (by simpa [upb] using h)⟩
              case op2 =>
                rintro bb _ w' ⟨x45, x46, x47, x48, x49, x50, x51, x44, x52, x53, x13, x14, rfl, t0, tL, tB, tO, tP, p45, p46, p47, p48, p49, p50, p51, p44, p52, p53, p14⟩ hb hd K hK
                simp only [Act.put, List.setIfInBounds_toArray, List.set_cons_zero, List.set_cons_succ]
                rw [if_pos (by rfl)]
                go_simp
                exact hK _ _ ⟨x45, x46, .int .i64 k, x48, x49, x50, x51, x44, x52, x53, x13, x14, by simp only [Act.put, List.setIfInBounds_toArray, List.set_cons_zero, List.set_cons_succ], t0, tL, tB, fun h => by have := tO (by simpa [upb] using h); simpa [upb] using this, fun h => (by obtain ⟨g2, R, e, hg2, hl2, hr, ht⟩ := tP (by simpa [upb] using h); exact ⟨g2, R, e, hg2, hl2, hr, fun h => ht (by simpa [upb] using h)⟩), fun h => p45 (by simpa [upb] using h), fun h => p46 (by simpa [upb] using h), fun _ => rfl, fun h => p48 (by simpa [upb] using h), fun h => p49 (by simpa [upb] using h), fun h => p50 (by simpa [upb] using h), fun h => p51 (by simpa [upb] using h), fun h => p44 (by simpa [upb] using h), fun h => p52 (by simpa [upb] using h), fun h => p53 (by simpa [upb] using h), fun h => p14 (by simpa [upb] using h)⟩
              case op3 =>
                rintro bb _ w' ⟨x45, x46, x47, x48, x49, x50, x51, x44, x52, x53, x13, x14, rfl, t0, tL, tB, tO, tP, p45, p46, p47, p48, p49, p50, p51, p44, p52, p53, p14⟩ hb hd K hK
                simp only [Act.put, List.setIfInBounds_toArray, List.set_cons_zero, List.set_cons_succ]
                obtain rfl := p46 (hd 1 (by decide))
                obtain rfl := p47 (hd 2 (by decide))
                rw [if_pos (by rfl)]
                go_simp
                exact hK _ _ ⟨x45, .slice (some a) len cap, .int .i64 k, .pointer (some (a.add (k * 3))), x49, x50, x51, x44, x52, x53, x13, x14, by simp only [Act.put, List.setIfInBounds_toArray, List.set_cons_zero, List.set_cons_succ], t0, tL, tB, fun h => by have := tO (by simpa [upb] using h); simpa [upb] using this, fun h => (by obtain ⟨g2, R, e, hg2, hl2, hr, ht⟩ := tP (by simpa [upb] using h); exact ⟨g2, R, e, hg2, hl2, hr, fun h => ht (by simpa [upb] using h)⟩), fun h => p45 (by simpa [upb] using h), fun _ => rfl, fun _ => rfl, fun _ => rfl, fun h => p49 (by simpa [upb] using h), fun h => p50 (by simpa [upb] using h), fun h => p51 (by simpa [upb] using h), fun h => p44 (by simpa [upb] using h), fun h => p52 (by simpa [upb] using h), fun h => p53 (by simpa [upb] using h), fun h => p14 (by simpa [upb] using h)⟩
              case op4 =>
                rintro bb _ w' ⟨x45, x46, x47, x48, x49, x50, x51, x44, x52, x53, x13, x14, rfl, t0, tL, tB, tO, tP, p45, p46, p47, p48, p49, p50, p51, p44, p52, p53, p14⟩ hb hd K hK
                simp only [Act.put, List.setIfInBounds_toArray, List.set_cons_zero, List.set_cons_succ]
                obtain rfl := p48 (hd 3 (by decide))
                rw [if_pos (by rfl)]
                go_simp
                exact hK _ _ ⟨x45, x46, x47, .pointer (some (a.add (k * 3))), .pointer (some ⟨(a.add (k * 3)).block, (a.add (k * 3)).off + 2, none⟩), x50, x51, x44, x52, x53, x13, x14, by simp only [Act.put, List.setIfInBounds_toArray, List.set_cons_zero, List.set_cons_succ], t0, tL, tB, fun h => by have := tO (by simpa [upb] using h); simpa [upb] using this, fun h => (by obtain ⟨g2, R, e, hg2, hl2, hr, ht⟩ := tP (by simpa [upb] using h); exact ⟨g2, R, e, hg2, hl2, hr, fun h => ht (by simpa [upb] using h)⟩), fun h => p45 (by simpa [upb] using h), fun h => p46 (by simpa [upb] using h), fun h => p47 (by simpa [upb] using h), fun _ => rfl, fun _ => rfl, fun h => p50 (by simpa [upb] using h), fun h => p51 (by simpa [upb] using h), fun h => p44 (by simpa [upb] using h), fun h => p52 (by simpa [upb] using h), fun h => p53 (by simpa [upb] using h), fun h => p14 (by simpa [upb] using h)⟩
              case op5 =>
                rintro bb _ w' ⟨x45, x46, x47, x48, x49, x50, x51, x44, x52, x53, x13, x14, rfl, t0, tL, tB, tO, tP, p45, p46, p47, p48, p49, p50, p51, p44, p52, p53, p14⟩ hb hd K hK
                simp only [Act.put, List.setIfInBounds_toArray, List.set_cons_zero, List.set_cons_succ]
                obtain rfl := p49 (hd 4 (by decide))
                rw [if_pos (by rfl)]
                have tc := cell_next tB hax.out
                go_simp
                exact hK _ _ ⟨x45, x46, x47, x48, .pointer (some ⟨(a.add (k * 3)).block, (a.add (k * 3)).off + 2, none⟩), .int .i64 (X k), x51, x44, x52, x53, x13, x14, by simp only [Act.put, List.setIfInBounds_toArray, List.set_cons_zero, List.set_cons_succ], t0, tL, tB, fun h => by have := tO (by simpa [upb] using h); simpa [upb] using this, fun h => (by obtain ⟨g2, R, e, hg2, hl2, hr, ht⟩ := tP (by simpa [upb] using h); exact ⟨g2, R, e, hg2, hl2, hr, fun h => ht (by simpa [upb] using h)⟩), fun h => p45 (by simpa [upb] using h), fun h => p46 (by simpa [upb] using h), fun h => p47 (by simpa [upb] using h), fun h => p48 (by simpa [upb] using h), fun _ => rfl, fun _ => rfl, fun h => p51 (by simpa [upb] using h), fun h => p44 (by simpa [upb] using h), fun h => p52 (by simpa [upb] using h), fun h => p53 (by simpa [upb] using h), fun h => p14 (by simpa [upb] using h)⟩
              case op6 =>
                rintro bb _ w' ⟨x45, x46, x47, x48, x49, x50, x51, x44, x52, x53, x13, x14, rfl, t0, tL, tB, tO, tP, p45, p46, p47, p48, p49, p50, p51, p44, p52, p53, p14⟩ hb hd K hK
                simp only [Act.put, List.setIfInBounds_toArray, List.set_cons_zero, List.set_cons_succ]
                obtain rfl := p45 (hd 0 (by decide))
                obtain rfl := p50 (hd 5 (by decide))
                rw [if_pos (by rfl)]
                go_simp
                refine (HC2.out _).mono ?_; rintro e w4 ⟨rfl, hbel⟩
                try dsimp only
                exact hK _ _ ⟨.agg (rcs L), x46, x47, x48, x49, .int .i64 (X k), .tuple #[.agg (rcs LN), .int .i64 (-1)], x44, x52, x53, x13, x14, by simp only [Act.put, List.setIfInBounds_toArray, List.set_cons_zero, List.set_cons_succ], t0.next hbel, tL.next hbel, bnext tB (Nat.le_refl _) hbel, fun h => by have := tO (by simpa [upb] using h); simpa [upb] using this, fun h => (by obtain ⟨g2, R, e, hg2, hl2, hr, ht⟩ := tP (by simpa [upb] using h); exact ⟨g2, R, e, hg2, hl2.next hbel, hr, fun h => ht (by simpa [upb] using h)⟩), fun _ => rfl, fun h => p46 (by simpa [upb] using h), fun h => p47 (by simpa [upb] using h), fun h => p48 (by simpa [upb] using h), fun h => p49 (by simpa [upb] using h), fun _ => rfl, fun _ => rfl, fun h => p44 (by simpa [upb] using h), fun h => p52 (by simpa [upb] using h), fun h => p53 (by simpa [upb] using h), fun h => p14 (by simpa [upb] using h)⟩
              case op7 =>
                rintro bb _ w' ⟨x45, x46, x47, x48, x49, x50, x51, x44, x52, x53, x13, x14, rfl, t0, tL, tB, tO, tP, p45, p46, p47, p48, p49, p50, p51, p44, p52, p53, p14⟩ hb hd K hK
                simp only [Act.put, List.setIfInBounds_toArray, List.set_cons_zero, List.set_cons_succ]
                obtain rfl := p51 (hd 6 (by decide))
                rw [if_pos (by rfl)]
                go_simp
                exact hK _ _ ⟨x45, x46, x47, x48, x49, x50, .tuple #[.agg (rcs LN), .int .i64 (-1)], .tuple #[.agg (rcs LN), .int .i64 (-1)], x52, x53, x13, x14, by simp only [Act.put, List.setIfInBounds_toArray, List.set_cons_zero, List.set_cons_succ], t0, tL, tB, fun h => by have := tO (by simpa [upb] using h); simpa [upb] using this, fun h => (by obtain ⟨g2, R, e, hg2, hl2, hr, ht⟩ := tP (by simpa [upb] using h); exact ⟨g2, R, e, hg2, hl2, hr, fun h => ht (by simpa [upb] using h)⟩), fun h => p45 (by simpa [upb] using h), fun h => p46 (by simpa [upb] using h), fun h => p47 (by simpa [upb] using h), fun h => p48 (by simpa [upb] using h), fun h => p49 (by simpa [upb] using h), fun h => p50 (by simpa [upb] using h), fun _ => rfl, fun _ => rfl, fun h => p52 (by simpa [upb] using h), fun h => p53 (by simpa [upb] using h), fun h => p14 (by simpa [upb] using h)⟩
              case op8 =>
                rintro bb _ w' ⟨x45, x46, x47, x48, x49, x50, x51, x44, x52, x53, x13, x14, rfl, t0, tL, tB, tO, tP, p45, p46, p47, p48, p49, p50, p51, p44, p52, p53, p14⟩ hb hd K hK
                simp only [Act.put, List.setIfInBounds_toArray, List.set_cons_zero, List.set_cons_succ]
                obtain rfl := p44 (hd 7 (by decide))
                rw [if_pos (by rfl)]
                go_simp
                exact hK _ _ ⟨x45, x46, x47, x48, x49, x50, x51, .tuple #[.agg (rcs LN), .int .i64 (-1)], .agg (rcs LN), x53, x13, x14, by simp only [Act.put, List.setIfInBounds_toArray, List.set_cons_zero, List.set_cons_succ], t0, tL, tB, fun h => by have := tO (by simpa [upb] using h); simpa [upb] using this, fun h => (by obtain ⟨g2, R, e, hg2, hl2, hr, ht⟩ := tP (by simpa [upb] using h); exact ⟨g2, R, e, hg2, hl2, hr, fun h => ht (by simpa [upb] using h)⟩), fun h => p45 (by simpa [upb] using h), fun h => p46 (by simpa [upb] using h), fun h => p47 (by simpa [upb] using h), fun h => p48 (by simpa [upb] using h), fun h => p49 (by simpa [upb] using h), fun h => p50 (by simpa [upb] using h), fun h => p51 (by simpa [upb] using h), fun _ => rfl, fun _ => rfl, fun h => p53 (by simpa [upb] using h), fun h => p14 (by simpa [upb] using h)⟩
              case op9 =>
                rintro bb _ w' ⟨x45, x46, x47, x48, x49, x50, x51, x44, x52, x53, x13, x14, rfl, t0, tL, tB, tO, tP, p45, p46, p47, p48, p49, p50, p51, p44, p52, p53, p14⟩ hb hd K hK
                simp only [Act.put, List.setIfInBounds_toArray, List.set_cons_zero, List.set_cons_succ]
                obtain rfl := p44 (hd 7 (by decide))
                rw [if_pos (by rfl)]
                go_simp
                exact hK _ _ ⟨x45, x46, x47, x48, x49, x50, x51, .tuple #[.agg (rcs LN), .int .i64 (-1)], x52, .int .i64 (-1), x13, x14, by simp only [Act.put, List.setIfInBounds_toArray, List.set_cons_zero, List.set_cons_succ], t0, tL, tB, fun h => by have := tO (by simpa [upb] using h); simpa [upb] using this, fun h => (by obtain ⟨g2, R, e, hg2, hl2, hr, ht⟩ := tP (by simpa [upb] using h); exact ⟨g2, R, e, hg2, hl2, hr, fun h => ht (by simpa [upb] using h)⟩), fun h => p45 (by simpa [upb] using h), fun h => p46 (by simpa [upb] using h), fun h => p47 (by simpa [upb] using h), fun h => p48 (by simpa [upb] using h), fun h => p49 (by simpa [upb] using h), fun h => p50 (by simpa [upb] using h), fun h => p51 (by simpa [upb] using h), fun _ => rfl, fun h => p52 (by simpa [upb] using h), fun _ => rfl, fun h => p14 (by simpa [upb] using h)⟩
              case op10 =>
                rintro bb _ w' ⟨x45, x46, x47, x48, x49, x50, x51, x44, x52, x53, x13, x14, rfl, t0, tL, tB, tO, tP, p45, p46, p47, p48, p49, p50, p51, p44, p52, p53, p14⟩ hb hd K hK
                simp only [Act.put, List.setIfInBounds_toArray, List.set_cons_zero, List.set_cons_succ]
                rw [if_pos (by rfl)]
                have hz := zero67' w'
                go_simp
                exact hK _ _ ⟨x45, x46, x47, x48, x49, x50, x51, x44, x52, x53, (.pointer (some ⟨w'.heap.size, 0, none⟩)), x14, by simp only [Act.put, List.setIfInBounds_toArray, List.set_cons_zero, List.set_cons_succ], t0.next ((Below.refl _ _).alloc (Nat.le_refl _) _), tL.next ((Below.refl _ _).alloc (Nat.le_refl _) _), tB.alloc tB.size _, fun _ => by simp [upb], fun _ => ⟨w'.heap.size, Z0, rfl, tL.lt, liesR_new _ _ _ rfl, Z0_len, fun h => (by have h2 := tO (by simpa [upb] using h); rw [hb] at h2; cases h2)⟩, fun h => p45 (by simpa [upb] using h), fun h => p46 (by simpa [upb] using h), fun h => p47 (by simpa [upb] using h), fun h => p48 (by simpa [upb] using h), fun h => p49 (by simpa [upb] using h), fun h => p50 (by simpa [upb] using h), fun h => p51 (by simpa [upb] using h), fun h => p44 (by simpa [upb] using h), fun h => p52 (by simpa [upb] using h), fun h => p53 (by simpa [upb] using h), fun h => p14 (by simpa [upb] using h)⟩
              case op11 =>
                rintro bb _ w' ⟨x45, x46, x47, x48, x49, x50, x51, x44, x52, x53, x13, x14, rfl, t0, tL, tB, tO, tP, p45, p46, p47, p48, p49, p50, p51, p44, p52, p53, p14⟩ hb hd K hK
                simp only [Act.put, List.setIfInBounds_toArray, List.set_cons_zero, List.set_cons_succ]
                obtain rfl := p52 (hd 8 (by decide))
                rw [if_pos (by rfl)]
                obtain ⟨g2, R, rfl, hg2, hl2, hr, ht⟩ := tP (hd 10 (by decide))
                refine wp_store_row 67 (.tmp 13) (.tmp 52) rfl _ _ rfl rfl _ _ hl2 IW.out (by rw [rcs_size, rcs_size, hr, PN.out.len]) (rcs_one _) ?_
                try simp only [Act.put, List.setIfInBounds_toArray, List.set_cons_zero, List.set_cons_succ]
                exact hK _ _ ⟨x45, x46, x47, x48, x49, x50, x51, x44, .agg (rcs LN), x53, (.pointer (some ⟨g2, 0, none⟩)), x14, by simp only [Act.put, List.setIfInBounds_toArray, List.set_cons_zero, List.set_cons_succ], t0.row (by omega) _, tL.row (by omega) _, below_setRow tB (by omega) _, fun _ => by first | (simp [upb]; done) | (have := hd 10 (by decide); simpa [upb] using this), fun _ => ⟨g2, _, rfl, hg2, hl2.same _, PN.out.len, fun _ => rfl⟩, fun h => p45 (by simpa [upb] using h), fun h => p46 (by simpa [upb] using h), fun h => p47 (by simpa [upb] using h), fun h => p48 (by simpa [upb] using h), fun h => p49 (by simpa [upb] using h), fun h => p50 (by simpa [upb] using h), fun h => p51 (by simpa [upb] using h), fun h => p44 (by simpa [upb] using h), fun _ => rfl, fun h => p53 (by simpa [upb] using h), fun h => p14 (by simpa [upb] using h)⟩
              case op12 =>
                rintro bb _ w' ⟨x45, x46, x47, x48, x49, x50, x51, x44, x52, x53, x13, x14, rfl, t0, tL, tB, tO, tP, p45, p46, p47, p48, p49, p50, p51, p44, p52, p53, p14⟩ hb hd K hK
                simp only [Act.put, List.setIfInBounds_toArray, List.set_cons_zero, List.set_cons_succ]
                obtain rfl := p53 (hd 9 (by decide))
                rw [if_pos (by rfl)]
                go_simp
                exact hK _ _ ⟨x45, x46, x47, x48, x49, x50, x51, x44, x52, .int .i64 (-1), x13, .int .i64 (-1), by simp only [Act.put, List.setIfInBounds_toArray, List.set_cons_zero, List.set_cons_succ], t0, tL, tB, fun h => by have := tO (by simpa [upb] using h); simpa [upb] using this, fun h => (by obtain ⟨g2, R, e, hg2, hl2, hr, ht⟩ := tP (by simpa [upb] using h); exact ⟨g2, R, e, hg2, hl2, hr, fun h => ht (by simpa [upb] using h)⟩), fun h => p45 (by simpa [upb] using h), fun h => p46 (by simpa [upb] using h), fun h => p47 (by simpa [upb] using h), fun h => p48 (by simpa [upb] using h), fun h => p49 (by simpa [upb] using h), fun h => p50 (by simpa [upb] using h), fun h => p51 (by simpa [upb] using h), fun h => p44 (by simpa [upb] using h), fun h => p52 (by simpa [upb] using h), fun _ => rfl, fun _ => rfl⟩
              case done =>
                rintro bb _ w' hb ⟨x45, x46, x47, x48, x49, x50, x51, x44, x52, x53, x13, x14, rfl, t0, tL, tB, tO, tP, p45, p46, p47, p48, p49, p50, p51, p44, p52, p53, p14⟩
                obtain rfl := p45 (hb 0 (by decide))
                obtain rfl := p46 (hb 1 (by decide))
                obtain rfl := p47 (hb 2 (by decide))
                obtain rfl := p48 (hb 3 (by decide))
                obtain rfl := p49 (hb 4 (by decide))
                obtain rfl := p50 (hb 5 (by decide))
                obtain rfl := p51 (hb 6 (by decide))
                obtain rfl := p44 (hb 7 (by decide))
                obtain rfl := p52 (hb 8 (by decide))
                obtain rfl := p53 (hb 9 (by decide))
                obtain rfl := p14 (hb 12 (by decide))
                simp only [Act.put, List.setIfInBounds_toArray, List.set_cons_zero, List.set_cons_succ]
                obtain ⟨g2, R, rfl, hg2, hl2, hr, ht⟩ := tP (hb 10 (by decide))
                rw [ht (hb 11 (by decide))] at hl2
                clear tP tO ht hr
                clear hb p45 p46 p47 p48 p49 p50 p51 p44 p52 p53 p14
                have HLg := Lib.hid tL
                have HLg2 := Lib.hid hl2
                have V1 := Lib.hid (t0.setA LN)
                have V0 := Lib.hid t0
                have VB1 := Lib.hid (below_setRow tB (Nat.le_refl _) (acs LN))
                have HLg2' := Lib.hid (hl2.row (by omega : g2 ≠ w.heap.size) (acs LN))
                have S3 := Lib.hid (V1.out.setW LN)
                have B3 := Lib.hid (below_setRow VB1.out (show w.heap.size ≤ w.heap.size + 1 + 1 by omega) (rcs LN))
                clear t0 tL hl2 tB
                by_cases hh : k = q
                · have hkq : ((k : Int) == (q : Int)) = true := by simp [hh]
                  have T1 := Lib.hid (S3.out.setH LN)
                  have T2 := Lib.hid (T1.out.setS LN)
                  have C1 := Lib.hid (below_setRow B3.out (show w.heap.size ≤ w.heap.size + 1 by omega) (acs LN))
                  have C2 := Lib.hid (below_setRow C1.out (show w.heap.size ≤ w.heap.size + 1 + 1 + 1 by omega) (rcs LN))
                  go_wp2_with (first | (refine wpList_load_row rfl 29 (.tmp 10) rfl _ rfl _ _ _ _ HLg.out Try.underlying29 rfl IN.out ?_) | (refine wpList_store_row rfl 29 (.tmp 5) (.tmp 54) rfl _ _ rfl rfl _ _ V0.out.a IN.out (by rw [acs_size, acs_size, PL.out.len, PN.out.len]) (acs_one _) ?_) | (refine wpList_load_row rfl 67 (.tmp 13) rfl _ rfl _ _ _ _ HLg2'.out Try.underlying67 rfl IW.out ?_) | (refine wpList_store_row rfl 67 (.tmp 7) (.tmp 55) rfl _ _ rfl rfl _ _ V1.out.w IW.out (by rw [rcs_size, rcs_size, PL.out.len, PN.out.len]) (rcs_one _) ?_) | (refine wpList_load_row rfl 29 (.tmp 5) rfl _ rfl _ _ _ _ S3.out.a Try.underlying29 rfl IN.out ?_) | (refine wpList_store_row rfl 29 (.tmp 6) (.tmp 126) rfl _ _ rfl rfl _ _ S3.out.h IN.out (by rw [acs_size, acs_size, PH.out.len, PN.out.len]) (acs_one _) ?_) | (refine wpList_load_row rfl 67 (.tmp 7) rfl _ rfl _ _ _ _ T1.out.w Try.underlying67 rfl IW.out ?_) | (refine wpList_store_row rfl 67 (.tmp 8) (.tmp 127) rfl _ _ rfl rfl _ _ T1.out.s IW.out (by rw [rcs_size, rcs_size, PH.out.len, PN.out.len]) (rcs_one _) ?_))
                  exact ⟨⟨k + 1, LN, LN, by go_num, by omega, PN.out, PN.out.more (by omega), T2.out, C2.out⟩, by simp [intOf]; omega⟩
                · have hkq : ((k : Int) == (q : Int)) = false := by simp; omega
                  go_wp2_with (first | (refine wpList_load_row rfl 29 (.tmp 10) rfl _ rfl _ _ _ _ HLg.out Try.underlying29 rfl IN.out ?_) | (refine wpList_store_row rfl 29 (.tmp 5) (.tmp 54) rfl _ _ rfl rfl _ _ V0.out.a IN.out (by rw [acs_size, acs_size, PL.out.len, PN.out.len]) (acs_one _) ?_) | (refine wpList_load_row rfl 67 (.tmp 13) rfl _ rfl _ _ _ _ HLg2'.out Try.underlying67 rfl IW.out ?_) | (refine wpList_store_row rfl 67 (.tmp 7) (.tmp 55) rfl _ _ rfl rfl _ _ V1.out.w IW.out (by rw [rcs_size, rcs_size, PL.out.len, PN.out.len]) (rcs_one _) ?_))
                  exact ⟨⟨k + 1, LN, H, by go_num, by omega, PN.out, PH.out, S3.out, B3.out⟩, by simp [intOf]; omega⟩
    · obtain rfl : k = len := by omega
      have IH := Lib.hid (info29 H PH.out.len)
      have IHR := Lib.hid (info67 H PH.out.len)
      have GG := Lib.hid (fun W => get_any L ask hP.len hask W)
      have GH := Lib.hid (fun W => hasR_any L ask hP.len hask W)
      rw [hasR_eq hP (by omega)] at GH
      have SL := Lib.hid (fun W => same_any L hP.len (fun j hj => by have := hP.gen j hj; omega) W)
      have SH := Lib.hid (fun W => same_any H PH.out.len (fun j hj => by have := PH.out.gen j hj; omega) W)
      have hm : ask % 128 < 128 := Nat.mod_lt _ (by omega)
      have HM : (ask : Int).tmod 128 = ((ask % 128 : Nat) : Int) := by rw [Int.tmod_eq_emod_of_nonneg (by omega)]; omega
      obtain ⟨j, hj⟩ : ∃ j, j = ask % 128 := ⟨_, rfl⟩
      rw [← hj] at hm HM GG
      clear hj hq
      have j0 : (0 : Int) ≤ (j : Int) := by omega
      have j1 : (j : Int) < 128 := by omega
      have hask2 : (ask : Int) < 65536 := by omega
      have HX := Lib.hid (rcs_x L hP.len j hm)
      have hw : wrap64 (ask : Int) = ask := by unfold wrap64; omega
      clear hP
      cases hb : has L ask
      · rw [hb] at GG GH
        rw [if_neg (by simp)] at GG
        by_cases hl0 : k = 0
        · have hz0 : ((k : Int) == 0) = true := by simp [hl0]
          have S2 := Lib.hid S1.out
          go_wp2_with (refine wpList_load_row rfl 29 (.tmp 5) rfl _ rfl _ _ _ _ S1.out.a Try.underlying29 rfl IL.out ?_)
          refine (GG.out _).mono ?_; rintro e w2 ⟨rfl, b2⟩
          have S2 := Lib.hid (S1.out.next b2)
          have B2 := Lib.hid (bnext B1.out (Nat.le_refl _) b2)
          clear b2
          go_wp2_with (refine wpList_load_row rfl 67 (.tmp 7) rfl _ rfl _ _ _ _ S2.out.w Try.underlying67 rfl ILR.out ?_)
          refine (GH.out _).mono ?_; rintro e w3 ⟨rfl, b3⟩
          have S3 := Lib.hid (S2.out.next b3)
          have B3 := Lib.hid (bnext B2.out (Nat.le_refl _) b3)
          clear b3
          go_wp2_with (first | (refine wpList_load_row rfl 29 (.tmp 5) rfl _ rfl _ _ _ _ S3.out.a Try.underlying29 rfl IL.out ?_) | (refine wpList_load_row rfl 67 (.tmp 7) rfl _ rfl _ _ _ _ S3.out.w Try.underlying67 rfl ILR.out ?_))
          refine (SL.out _).mono ?_; rintro e w4 ⟨rfl, b4⟩
          have S4 := Lib.hid (S3.out.next b4)
          have B4 := Lib.hid (bnext B3.out (Nat.le_refl _) b4)
          clear b4
          go_wp2_with fail
          refine (HK.out _).mono ?_; rintro e w6 ⟨rfl, b6⟩
          have B6 := Lib.hid (bnext B4.out (Nat.le_refl _) b6)
          go_wp2_with fail
          go_ret
          exact ⟨rfl, B6.out⟩
        · have hz0 : ((k : Int) == 0) = false := by simp; omega
          have S2 := Lib.hid S1.out
          go_wp2_with (refine wpList_load_row rfl 29 (.tmp 5) rfl _ rfl _ _ _ _ S1.out.a Try.underlying29 rfl IL.out ?_)
          refine (GG.out _).mono ?_; rintro e w2 ⟨rfl, b2⟩
          have S2 := Lib.hid (S1.out.next b2)
          have B2 := Lib.hid (bnext B1.out (Nat.le_refl _) b2)
          clear b2
          go_wp2_with (refine wpList_load_row rfl 67 (.tmp 7) rfl _ rfl _ _ _ _ S2.out.w Try.underlying67 rfl ILR.out ?_)
          refine (GH.out _).mono ?_; rintro e w3 ⟨rfl, b3⟩
          have S3 := Lib.hid (S2.out.next b3)
          have B3 := Lib.hid (bnext B2.out (Nat.le_refl _) b3)
          clear b3
          go_wp2_with (first | (refine wpList_load_row rfl 29 (.tmp 5) rfl _ rfl _ _ _ _ S3.out.a Try.underlying29 rfl IL.out ?_) | (refine wpList_load_row rfl 67 (.tmp 7) rfl _ rfl _ _ _ _ S3.out.w Try.underlying67 rfl ILR.out ?_))
          refine (SL.out _).mono ?_; rintro e w4 ⟨rfl, b4⟩
          have S4 := Lib.hid (S3.out.next b4)
          have B4 := Lib.hid (bnext B3.out (Nat.le_refl _) b4)
          clear b4
          go_wp2_with (first | (refine wpList_load_g (by rfl) 29 (.tmp 6) rfl _ rfl _ _ _ _ S4.out.h Try.underlying29 rfl IH.out ?_) | (refine wpList_load_g (by rfl) 67 (.tmp 8) rfl _ rfl _ _ _ _ S4.out.s Try.underlying67 rfl IHR.out ?_))
          refine (SH.out _).mono ?_; rintro e w5 ⟨rfl, b5⟩
          have S5 := Lib.hid (S4.out.next b5)
          have B5 := Lib.hid (bnext B4.out (Nat.le_refl _) b5)
          clear b5
          go_wp2_with fail
          refine (HK.out _).mono ?_; rintro e w6 ⟨rfl, b6⟩
          have B6 := Lib.hid (bnext B5.out (Nat.le_refl _) b6)
          go_wp2_with fail
          go_ret
          exact ⟨rfl, B6.out⟩
      · rw [hb] at GG GH
        rw [if_pos rfl] at GG
        by_cases hl0 : k = 0
        · have hz0 : ((k : Int) == 0) = true := by simp [hl0]
          have S2 := Lib.hid S1.out
          go_wp2_with (refine wpList_load_row rfl 29 (.tmp 5) rfl _ rfl _ _ _ _ S1.out.a Try.underlying29 rfl IL.out ?_)
          refine (GG.out _).mono ?_; rintro e w2 ⟨rfl, b2⟩
          have S2 := Lib.hid (S1.out.next b2)
          have B2 := Lib.hid (bnext B1.out (Nat.le_refl _) b2)
          clear b2
          go_wp2_with (refine wpList_load_row rfl 67 (.tmp 7) rfl _ rfl _ _ _ _ S2.out.w Try.underlying67 rfl ILR.out ?_)
          refine (GH.out _).mono ?_; rintro e w3 ⟨rfl, b3⟩
          have S3 := Lib.hid (S2.out.next b3)
          have B3 := Lib.hid (bnext B2.out (Nat.le_refl _) b3)
          clear b3
          go_wp2_with (first | (refine wpList_load_row rfl 29 (.tmp 5) rfl _ rfl _ _ _ _ S3.out.a Try.underlying29 rfl IL.out ?_) | (refine wpList_load_row rfl 67 (.tmp 7) rfl _ rfl _ _ _ _ S3.out.w Try.underlying67 rfl ILR.out ?_))
          refine (SL.out _).mono ?_; rintro e w4 ⟨rfl, b4⟩
          have S4 := Lib.hid (S3.out.next b4)
          have B4 := Lib.hid (bnext B3.out (Nat.le_refl _) b4)
          clear b4
          have cx := S4.out.w.cell (128 + j)
          rw [HX.out] at cx
          go_wp2_with fail
          refine (HK.out _).mono ?_; rintro e w6 ⟨rfl, b6⟩
          have B6 := Lib.hid (bnext B4.out (Nat.le_refl _) b6)
          go_wp2_with fail
          go_ret
          exact ⟨rfl, B6.out⟩
        · have hz0 : ((k : Int) == 0) = false := by simp; omega
          have S2 := Lib.hid S1.out
          go_wp2_with (refine wpList_load_row rfl 29 (.tmp 5) rfl _ rfl _ _ _ _ S1.out.a Try.underlying29 rfl IL.out ?_)
          refine (GG.out _).mono ?_; rintro e w2 ⟨rfl, b2⟩
          have S2 := Lib.hid (S1.out.next b2)
          have B2 := Lib.hid (bnext B1.out (Nat.le_refl _) b2)
          clear b2
          go_wp2_with (refine wpList_load_row rfl 67 (.tmp 7) rfl _ rfl _ _ _ _ S2.out.w Try.underlying67 rfl ILR.out ?_)
          refine (GH.out _).mono ?_; rintro e w3 ⟨rfl, b3⟩
          have S3 := Lib.hid (S2.out.next b3)
          have B3 := Lib.hid (bnext B2.out (Nat.le_refl _) b3)
          clear b3
          go_wp2_with (first | (refine wpList_load_row rfl 29 (.tmp 5) rfl _ rfl _ _ _ _ S3.out.a Try.underlying29 rfl IL.out ?_) | (refine wpList_load_row rfl 67 (.tmp 7) rfl _ rfl _ _ _ _ S3.out.w Try.underlying67 rfl ILR.out ?_))
          refine (SL.out _).mono ?_; rintro e w4 ⟨rfl, b4⟩
          have S4 := Lib.hid (S3.out.next b4)
          have B4 := Lib.hid (bnext B3.out (Nat.le_refl _) b4)
          clear b4
          go_wp2_with (first | (refine wpList_load_g (by rfl) 29 (.tmp 6) rfl _ rfl _ _ _ _ S4.out.h Try.underlying29 rfl IH.out ?_) | (refine wpList_load_g (by rfl) 67 (.tmp 8) rfl _ rfl _ _ _ _ S4.out.s Try.underlying67 rfl IHR.out ?_))
          refine (SH.out _).mono ?_; rintro e w5 ⟨rfl, b5⟩
          have S5 := Lib.hid (S4.out.next b5)
          have B5 := Lib.hid (bnext B4.out (Nat.le_refl _) b5)
          clear b5
          have cx := S5.out.w.cell (128 + j)
          rw [HX.out] at cx
          go_wp2_with fail
          refine (HK.out _).mono ?_; rintro e w6 ⟨rfl, b6⟩
          have B6 := Lib.hid (bnext B5.out (Nat.le_refl _) b6)
          go_wp2_with fail
          go_ret
          exact ⟨rfl, B6.out⟩
end Go.Proofs.Ytfdbibddhneklab.Arena
