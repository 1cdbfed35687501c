-- by a program of ours (the kit's print, turned, and hand texts beside it), out of the translation; not trusted: Lean checks it
import Derived.Test.YtigcgdhihaibbaaDoorPTkx0
import Derived.Test.YtigcgdhihaibbaaDoorPTkx1
namespace Go.Proofs.YtigcgdhihaibbaaDoor.PTk
open Go.RowKit Go.Proofs.YtigcgdhihaibbaaDoorW.PrintWords Go.Proofs.YtigcgdhihaibbaaDoorW.PrintLast Go.Proofs.YtigcgdhihaibbaaDoorW.PrintMore
attribute [local go_sem] max2_int min2_int max_two min_two max_three min_three max_four min_four   -- for this text's walks alone
set_option linter.unusedVariables false
set_option linter.unusedSimpArgs false

/-! ### rematchref01_varint: function 55 -/
mutual
def rematchref01_varint.l0 : Nat → ByteArray → Int → Option (Int × Int × Int)
  | 0, _, _ => none
  | k + 1, x0, x5 => if x5 ≤ 10 then (if x5 > (x0.size : Int) then (some (0, 0, 3)) else (if x5 = 10 then (if 9 < (x0.size : Int) then (if (bt x0 9) > 1 then (rematchref01_varint.j1 k x0 x5 true) else (if x5 > 1 then (if 0 ≤ (wrap64 (x5 - 1)) then (if (wrap64 (x5 - 1)) < (x0.size : Int) then (rematchref01_varint.j1 k x0 x5 ((bt x0 (wrap64 (x5 - 1))) == 0)) else (none)) else (none)) else (rematchref01_varint.j1 k x0 x5 false))) else (none)) else (if x5 > 1 then (if 0 ≤ (wrap64 (x5 - 1)) then (if (wrap64 (x5 - 1)) < (x0.size : Int) then (rematchref01_varint.j1 k x0 x5 ((bt x0 (wrap64 (x5 - 1))) == 0)) else (none)) else (none)) else (rematchref01_varint.j1 k x0 x5 false)))) else (some (0, 0, 4))
def rematchref01_varint.j1 : Nat → ByteArray → Int → Bool → Option (Int × Int × Int)
  | 0, _, _, _ => none
  | k + 1, x0, x5, x33 => if x33 = true then (some (0, 0, 4)) else (if 0 ≤ (wrap64 (x5 - 1)) then (if (wrap64 (x5 - 1)) < (x0.size : Int) then (if (bt x0 (wrap64 (x5 - 1))) ≥ 128 then (rematchref01_varint.l0 k x0 (wrap64 (x5 + 1))) else (rematchref01_varint.l1 k x0 x5 0 (wrap64 (x5 - 1)))) else (none)) else (none))
def rematchref01_varint.l1 : Nat → ByteArray → Int → Int → Int → Option (Int × Int × Int)
  | 0, _, _, _, _ => none
  | k + 1, x0, x5, x6, x7 => if x7 ≥ 0 then (if 0 ≤ x7 then (if x7 < (x0.size : Int) then (rematchref01_varint.l1 k x0 x5 (IntKind.u64.wrap ((IntKind.u64.wrap (x6 * 128)) + (IntKind.u64.wrap (Int.tmod (bt x0 x7) 128)))) (wrap64 (x7 - 1))) else (none)) else (none)) else (some (x6, x5, 0))
end
def rematchref01_varint.f (k : Nat) (a0 : ByteArray) : Option (Int × Int × Int) := rematchref01_varint.l0 k a0 1
theorem rematchref01_varint.mono_l : ∀ k, (∀ y0 y1, LeO (rematchref01_varint.l0 k y0 y1) (rematchref01_varint.l0 (k + 1) y0 y1)) ∧ (∀ y0 y1 y2, LeO (rematchref01_varint.j1 k y0 y1 y2) (rematchref01_varint.j1 (k + 1) y0 y1 y2)) ∧ (∀ y0 y1 y2 y3, LeO (rematchref01_varint.l1 k y0 y1 y2 y3) (rematchref01_varint.l1 (k + 1) y0 y1 y2 y3))
  | 0 => ⟨fun _ _ r h => by simp [rematchref01_varint.l0] at h, fun _ _ _ r h => by simp [rematchref01_varint.j1] at h, fun _ _ _ _ r h => by simp [rematchref01_varint.l1] at h⟩
  | k + 1 => by
    obtain ⟨ih0, ih1, ih2⟩ := rematchref01_varint.mono_l k
    refine ⟨?_, ?_, ?_⟩
    · intro y0 y1
      unfold rematchref01_varint.l0
      repeat' first
      | (with_reducible exact ih0 _ _)
      | (with_reducible exact ih1 _ _ _)
      | (with_reducible exact ih2 _ _ _ _)
      | (with_reducible exact LeO.refl _)
      | (with_reducible exact LeO.none _)
      | (with_reducible refine LeO.ite ?_ ?_)
      | (with_reducible refine LeO.bind ?_ (fun _ => ?_))
      | exact ih0 _ _
      | exact ih1 _ _ _
      | exact ih2 _ _ _ _
      | exact LeO.none _
      | refine LeO.ite ?_ ?_
      | refine LeO.bind ?_ (fun _ => ?_)
    · intro y0 y1 y2
      unfold rematchref01_varint.j1
      repeat' first
      | (with_reducible exact ih0 _ _)
      | (with_reducible exact ih1 _ _ _)
      | (with_reducible exact ih2 _ _ _ _)
      | (with_reducible exact LeO.refl _)
      | (with_reducible exact LeO.none _)
      | (with_reducible refine LeO.ite ?_ ?_)
      | (with_reducible refine LeO.bind ?_ (fun _ => ?_))
      | exact ih0 _ _
      | exact ih1 _ _ _
      | exact ih2 _ _ _ _
      | exact LeO.none _
      | refine LeO.ite ?_ ?_
      | refine LeO.bind ?_ (fun _ => ?_)
    · intro y0 y1 y2 y3
      unfold rematchref01_varint.l1
      repeat' first
      | (with_reducible exact ih0 _ _)
      | (with_reducible exact ih1 _ _ _)
      | (with_reducible exact ih2 _ _ _ _)
      | (with_reducible exact LeO.refl _)
      | (with_reducible exact LeO.none _)
      | (with_reducible refine LeO.ite ?_ ?_)
      | (with_reducible refine LeO.bind ?_ (fun _ => ?_))
      | exact ih0 _ _
      | exact ih1 _ _ _
      | exact ih2 _ _ _ _
      | exact LeO.none _
      | refine LeO.ite ?_ ?_
      | refine LeO.bind ?_ (fun _ => ?_)
theorem rematchref01_varint.mono : ∀ a0 k, LeO (rematchref01_varint.f k a0) (rematchref01_varint.f (k + 1) a0) := by
  intro a0 k
  obtain ⟨ih0, ih1, ih2⟩ := rematchref01_varint.mono_l k
  unfold rematchref01_varint.f
  repeat' first
      | (with_reducible exact ih0 _ _)
      | (with_reducible exact ih1 _ _ _)
      | (with_reducible exact ih2 _ _ _ _)
      | (with_reducible exact LeO.refl _)
      | (with_reducible exact LeO.none _)
      | (with_reducible refine LeO.ite ?_ ?_)
      | (with_reducible refine LeO.bind ?_ (fun _ => ?_))
      | exact ih0 _ _
      | exact ih1 _ _ _
      | exact ih2 _ _ _ _
      | exact LeO.none _
      | refine LeO.ite ?_ ?_
      | refine LeO.bind ?_ (fun _ => ?_)
set_option maxHeartbeats 8000000 in
set_option maxRecDepth 100000 in
theorem rematchref01_varint.calls (k : Nat) (a0 : ByteArray) (r1 : Int) (r2 : Int) (r3 : Int) (w : World) (h : rematchref01_varint.f k a0 = some (r1, r2, r3)) :
    Calls Tryd.prog 44 #[.string a0] w fun e w' => e = .returned (.tuple #[.int .u64 r1, .int .i64 r2, .int .i64 r3]) ∧ Drawn0 w w' := by
  have H : (rematchref01_varint.l0 k a0 1) = some (r1, r2, r3) := h
  clear h
  have H' := Aside0.mk H
  clear H
  go_enter Tryd.func44, Tryd.ntmps44
  go_wp2
  go_loopg [5] k (fun kq v5 w' => ∃ (x5_1 : Int), v5 = .int .i64 x5_1 ∧ Aside0 (rematchref01_varint.l0 kq a0 x5_1 = some (r1, r2, r3)) ∧ Aside0 (kq ≤ k) ∧ Drawn0 w w')
  case atStart => exact ⟨(1), (by first | rfl | (simp; done) | (simp [*]; done)), H', ⟨Nat.le_refl _⟩, by repeat (first | exact Drawn0.refl _ | apply Drawn0.step)⟩
  case round =>
    clear H'
    obtain ⟨x5_1, rfl, HA, HK1, ⟨m1, rfl⟩⟩ := hrel
    cases gk with
    | zero => exact absurd HA.out (by simp [rematchref01_varint.l0])
    | succ k1 =>
      have H := HA.out
      clear HA
      simp only [rematchref01_varint.l0] at H
      by_cases c2 : x5_1 ≤ 10
      · rw [if_pos c2] at H
        have c2b0 : decide (x5_1 ≤ 10) = true := decide_eq_true c2
        clear c2
        by_cases c3 : x5_1 > (a0.size : Int)
        · rw [if_pos c3] at H
          have c3b0 : decide ((a0.size : Int) < x5_1) = true := decide_eq_true c3
          clear c3
          simp only [Option.some.injEq, Prod.mk.injEq] at H
          obtain ⟨rfl, rfl, rfl⟩ := H
          go_wp2
          go_ret3
          exact ⟨by first | rfl | (simp; done) | (simp [*]; done), by repeat (first | exact Drawn0.refl _ | apply Drawn0.step)⟩
        · rw [if_neg c3] at H
          have c3b0 : decide ((a0.size : Int) < x5_1) = false := decide_eq_false c3
          clear c3
          have HC4 := Aside0.mk H
          clear H
          go_upto_region 6 with (fail)
          go_cut [33] (fun v33 wc => ∃ (kq : Nat) (x33_3 : Bool), v33 = .bool x33_3 ∧ Aside0 (rematchref01_varint.j1 kq a0 x5_1 x33_3 = some (r1, r2, r3)) ∧ Aside0 (kq ≤ k1) ∧ Drawn0 w wc)
          case first =>
            have H := HC4.out
            clear HC4
            by_cases c5 : x5_1 = 10
            · rw [if_pos c5] at H
              have c5b0 : (x5_1 == 10) = true := beq_iff_eq.mpr c5
              have c5b1 : (x5_1 != 10) = false := bne_eq_false_iff_eq.mpr c5
              clear c5
              (first | rw [c5b0] | (simp only [i64_w, i32_w]; rw [c5b0]) | skip)
              by_cases c6 : 9 < (a0.size : Int)
              · rw [if_pos c6] at H
                have c6b0 : decide (9 < (a0.size : Int)) = true := decide_eq_true c6
                have c6b1 : decide (9 < a0.size) = true := decide_eq_true (by omega)
                clear c6
                by_cases c8 : (bt a0 9) > 1
                · rw [if_pos c8] at H
                  have c8b0 : decide (1 < (bt a0 9)) = true := decide_eq_true c8
                  clear c8
                  have H' := Aside0.mk H
                  clear H
                  have p7 : 0 ≤ (9 : Int) := (by omega)
                  have q7 : 9 < a0.size := (by have : (9 : Int) < (a0.size : Int) := of_decide_eq_true (by first | (with_reducible assumption) | assumption); omega)
                  have hx7 : ∀ h : 9 < a0.size, ((a0[9]'h).toNat : Int) = bt a0 9 := bt_at a0 9
                  clear p7
                  have qi7 : (9 < (a0.size : Int)) = True := eq_true (of_decide_eq_true (by first | (with_reducible assumption) | assumption))
                  replace q7 := eq_true q7
                  go_wp2
                  go_meet
                  case rel => exact ⟨_, (true), (by first | rfl | (simp; done) | (simp [*]; done)), H', ⟨by have := HK1.out; first | omega | exact Nat.le_refl _⟩, by repeat (first | exact Drawn0.refl _ | apply Drawn0.step)⟩
                · rw [if_neg c8] at H
                  have c8b0 : decide (1 < (bt a0 9)) = false := decide_eq_false c8
                  clear c8
                  by_cases c9 : x5_1 > 1
                  · rw [if_pos c9] at H
                    have c9b0 : decide (1 < x5_1) = true := decide_eq_true c9
                    clear c9
                    obtain ⟨ji10, hji10⟩ : ∃ j_ : Int, (wrap64 (x5_1 - 1)) = j_ := ⟨_, rfl⟩
                    replace H : (if 0 ≤ (ji10) then (if (ji10) < (a0.size : Int) then (rematchref01_varint.j1 k1 a0 x5_1 ((bt a0 (ji10)) == 0)) else (none)) else (none)) = some (r1, r2, r3) := by first | (rw [hji10] at H; exact H) | (simp only [hji10] at H ⊢; exact H)
                    have hji10w : (IntKind.i64.wrap (x5_1 - 1)) = ji10 := (i64_w _).trans hji10
                    by_cases c11 : 0 ≤ (ji10)
                    · rw [if_pos c11] at H
                      have c11b0 : decide (0 ≤ (ji10)) = true := decide_eq_true c11
                      clear c11
                      by_cases c12 : (ji10) < (a0.size : Int)
                      · rw [if_pos c12] at H
                        have c12b0 : decide ((ji10) < (a0.size : Int)) = true := decide_eq_true c12
                        clear c12
                        have H' := Aside0.mk H
                        clear H
                        have p7 : 0 ≤ (9 : Int) := (by omega)
                        have q7 : 9 < a0.size := (by have : (9 : Int) < (a0.size : Int) := of_decide_eq_true (by first | (with_reducible assumption) | assumption); omega)
                        have hx7 : ∀ h : 9 < a0.size, ((a0[9]'h).toNat : Int) = bt a0 9 := bt_at a0 9
                        clear p7
                        have qi7 : (9 < (a0.size : Int)) = True := eq_true (of_decide_eq_true (by first | (with_reducible assumption) | assumption))
                        replace q7 := eq_true q7
                        have p13 : 0 ≤ ((ji10) : Int) := of_decide_eq_true (by first | (with_reducible assumption) | assumption)
                        have q13 : (ji10) < (a0.size : Int) := of_decide_eq_true (by first | (with_reducible assumption) | assumption)
                        have hx13 := bt_at a0 (ji10)
                        replace p13 := eq_true p13
                        replace q13 := eq_true q13
                        go_wp2
                        go_meet
                        case rel => exact ⟨_, (((bt a0 (ji10)) == 0)), (by first | rfl | (simp; done) | (simp only [← hji10] <;> (first | rfl | simp)) | (simp [*]; done)), H', ⟨by have := HK1.out; first | omega | exact Nat.le_refl _⟩, by repeat (first | exact Drawn0.refl _ | apply Drawn0.step)⟩
                      · rw [if_neg c12] at H
                        exact absurd H (by simp)
                    · rw [if_neg c11] at H
                      exact absurd H (by simp)
                  · rw [if_neg c9] at H
                    have c9b0 : decide (1 < x5_1) = false := decide_eq_false c9
                    clear c9
                    have H' := Aside0.mk H
                    clear H
                    have p7 : 0 ≤ (9 : Int) := (by omega)
                    have q7 : 9 < a0.size := (by have : (9 : Int) < (a0.size : Int) := of_decide_eq_true (by first | (with_reducible assumption) | assumption); omega)
                    have hx7 : ∀ h : 9 < a0.size, ((a0[9]'h).toNat : Int) = bt a0 9 := bt_at a0 9
                    clear p7
                    have qi7 : (9 < (a0.size : Int)) = True := eq_true (of_decide_eq_true (by first | (with_reducible assumption) | assumption))
                    replace q7 := eq_true q7
                    go_wp2
                    go_meet
                    case rel => exact ⟨_, (false), (by first | rfl | (simp; done) | (simp [*]; done)), H', ⟨by have := HK1.out; first | omega | exact Nat.le_refl _⟩, by repeat (first | exact Drawn0.refl _ | apply Drawn0.step)⟩
              · rw [if_neg c6] at H
                exact absurd H (by simp)
            · rw [if_neg c5] at H
              have c5b0 : (x5_1 == 10) = false := beq_eq_false_iff_ne.mpr c5
              have c5b1 : (x5_1 != 10) = true := bne_iff_ne.mpr c5
              (first | rw [c5b0] | (simp only [i64_w, i32_w]; rw [c5b0]) | skip)
              by_cases c14 : x5_1 > 1
              · rw [if_pos c14] at H
                have c14b0 : decide (1 < x5_1) = true := decide_eq_true c14
                clear c14
                obtain ⟨ji15, hji15⟩ : ∃ j_ : Int, (wrap64 (x5_1 - 1)) = j_ := ⟨_, rfl⟩
                replace H : (if 0 ≤ (ji15) then (if (ji15) < (a0.size : Int) then (rematchref01_varint.j1 k1 a0 x5_1 ((bt a0 (ji15)) == 0)) else (none)) else (none)) = some (r1, r2, r3) := by first | (rw [hji15] at H; exact H) | (simp only [hji15] at H ⊢; exact H)
                have hji15w : (IntKind.i64.wrap (x5_1 - 1)) = ji15 := (i64_w _).trans hji15
                by_cases c16 : 0 ≤ (ji15)
                · rw [if_pos c16] at H
                  have c16b0 : decide (0 ≤ (ji15)) = true := decide_eq_true c16
                  clear c16
                  by_cases c17 : (ji15) < (a0.size : Int)
                  · rw [if_pos c17] at H
                    have c17b0 : decide ((ji15) < (a0.size : Int)) = true := decide_eq_true c17
                    clear c17
                    have H' := Aside0.mk H
                    clear H
                    have p18 : 0 ≤ ((ji15) : Int) := of_decide_eq_true (by first | (with_reducible assumption) | assumption)
                    have q18 : (ji15) < (a0.size : Int) := of_decide_eq_true (by first | (with_reducible assumption) | assumption)
                    have hx18 := bt_at a0 (ji15)
                    replace p18 := eq_true p18
                    replace q18 := eq_true q18
                    go_wp2
                    go_meet
                    case rel => exact ⟨_, (((bt a0 (ji15)) == 0)), (by first | rfl | (simp; done) | (simp only [← hji15] <;> (first | rfl | simp)) | (simp [*]; done)), H', ⟨by have := HK1.out; first | omega | exact Nat.le_refl _⟩, by repeat (first | exact Drawn0.refl _ | apply Drawn0.step)⟩
                  · rw [if_neg c17] at H
                    exact absurd H (by simp)
                · rw [if_neg c16] at H
                  exact absurd H (by simp)
              · rw [if_neg c14] at H
                have c14b0 : decide (1 < x5_1) = false := decide_eq_false c14
                clear c14
                have H' := Aside0.mk H
                clear H
                go_wp2
                go_meet
                case rel => exact ⟨_, (false), (by first | rfl | (simp; done) | (simp [*]; done)), H', ⟨by have := HK1.out; first | omega | exact Nat.le_refl _⟩, by repeat (first | exact Drawn0.refl _ | apply Drawn0.step)⟩
          case rest =>
            clear HC4
            try clear c1
            try clear p1
            try clear q1
            try clear hx1
            try clear c2
            try clear c2b0
            try clear p2
            try clear c3
            try clear c3b0
            try clear c5
            try clear c5b0
            try clear c5b1
            try clear c6
            try clear c6b0
            try clear c6b1
            try clear p6
            try clear p7
            try clear q7
            try clear hx7
            try clear qi7
            try clear c8
            try clear c8b0
            try clear c9
            try clear c9b0
            try clear c11
            try clear c11b0
            try clear c12
            try clear c12b0
            try clear p13
            try clear q13
            try clear hx13
            try clear c14
            try clear c14b0
            try clear c16
            try clear c16b0
            try clear c17
            try clear c17b0
            try clear p18
            try clear q18
            try clear hx18
            try clear p13
            try clear p18
            try clear p7
            try clear q13
            try clear q18
            try clear q7
            obtain ⟨kq, x33_3, rfl, HA, HJ3, ⟨mc3, rfl⟩⟩ := hcut
            cases kq with
            | zero => exact absurd HA.out (by simp [rematchref01_varint.j1])
            | succ kj3 =>
              have H := HA.out
              clear HA
              simp only [rematchref01_varint.j1] at H
              by_cases c19 : x33_3 = true
              · subst c19
                have H1 : (some (0, 0, 4)) = some (r1, r2, r3) := by rw [if_pos rfl] at H; exact H
                clear H
                have H := H1
                clear H1
                simp only [Option.some.injEq, Prod.mk.injEq] at H
                obtain ⟨rfl, rfl, rfl⟩ := H
                go_wp2
                go_ret3
                exact ⟨by first | rfl | (simp; done) | (simp [*]; done), by repeat (first | exact Drawn0.refl _ | apply Drawn0.step)⟩
              · replace c19 := Bool.eq_false_iff.mpr c19
                subst c19
                have H1 : (if 0 ≤ (wrap64 (x5_1 - 1)) then (if (wrap64 (x5_1 - 1)) < (a0.size : Int) then (if (bt a0 (wrap64 (x5_1 - 1))) ≥ 128 then (rematchref01_varint.l0 kj3 a0 (wrap64 (x5_1 + 1))) else (rematchref01_varint.l1 kj3 a0 x5_1 0 (wrap64 (x5_1 - 1)))) else (none)) else (none)) = some (r1, r2, r3) := by rw [if_neg (show ¬ (false = true) by decide)] at H; exact H
                clear H
                have H := H1
                clear H1
                obtain ⟨ji20, hji20⟩ : ∃ j_ : Int, (wrap64 (x5_1 - 1)) = j_ := ⟨_, rfl⟩
                replace H : (if 0 ≤ (ji20) then (if (ji20) < (a0.size : Int) then (if (bt a0 (ji20)) ≥ 128 then (rematchref01_varint.l0 kj3 a0 (wrap64 (x5_1 + 1))) else (rematchref01_varint.l1 kj3 a0 x5_1 0 ji20)) else (none)) else (none)) = some (r1, r2, r3) := by first | (rw [hji20] at H; exact H) | (simp only [hji20] at H ⊢; exact H)
                have hji20w : (IntKind.i64.wrap (x5_1 - 1)) = ji20 := (i64_w _).trans hji20
                by_cases c21 : 0 ≤ (ji20)
                · rw [if_pos c21] at H
                  have c21b0 : decide (0 ≤ (ji20)) = true := decide_eq_true c21
                  clear c21
                  by_cases c22 : (ji20) < (a0.size : Int)
                  · rw [if_pos c22] at H
                    have c22b0 : decide ((ji20) < (a0.size : Int)) = true := decide_eq_true c22
                    clear c22
                    by_cases c24 : (bt a0 (ji20)) ≥ 128
                    · rw [if_pos c24] at H
                      have c24b0 : decide (128 ≤ (bt a0 (ji20))) = true := decide_eq_true c24
                      clear c24
                      have H' := Aside0.mk H
                      clear H
                      have p23 : 0 ≤ ((ji20) : Int) := of_decide_eq_true (by first | (with_reducible assumption) | assumption)
                      have q23 : (ji20) < (a0.size : Int) := of_decide_eq_true (by first | (with_reducible assumption) | assumption)
                      have hx23 := bt_at a0 (ji20)
                      replace p23 := eq_true p23
                      replace q23 := eq_true q23
                      go_wp2
                      go_roundg kj3
                      case measure => have := HK1.out; have := HJ3.out; omega
                      case rel => exact ⟨(wrap64 (x5_1 + 1)), (by first | rfl | (simp; done) | (simp [*]; done)), H', ⟨by have := HK1.out; have := HJ3.out; omega⟩, by repeat (first | exact Drawn0.refl _ | apply Drawn0.step)⟩
                    · rw [if_neg c24] at H
                      have c24b0 : decide (128 ≤ (bt a0 (ji20))) = false := decide_eq_false c24
                      clear c24
                      have H' := Aside0.mk H
                      clear H
                      have p23 : 0 ≤ ((ji20) : Int) := of_decide_eq_true (by first | (with_reducible assumption) | assumption)
                      have q23 : (ji20) < (a0.size : Int) := of_decide_eq_true (by first | (with_reducible assumption) | assumption)
                      have hx23 := bt_at a0 (ji20)
                      replace p23 := eq_true p23
                      replace q23 := eq_true q23
                      go_wp2
                      go_loopg [6, 7] kj3 (fun kq v6 v7 w' => ∃ (x6_3 : Int) (x7_3 : Int), v6 = .int .u64 x6_3 ∧ v7 = .int .i64 x7_3 ∧ Aside0 (rematchref01_varint.l1 kq a0 x5_1 x6_3 x7_3 = some (r1, r2, r3)) ∧ Aside0 (kq ≤ kj3) ∧ Drawn0 w w')
                      case atStart => exact ⟨(0), (ji20), (by first | rfl | (simp; done) | (simp [*]; done)), (by first | rfl | (simp; done) | (simp only [← hji20] <;> (first | rfl | simp)) | (simp [*]; done)), H', ⟨Nat.le_refl _⟩, by repeat (first | exact Drawn0.refl _ | apply Drawn0.step)⟩
                      case round =>
                        clear H'
                        try clear c1
                        try clear p1
                        try clear q1
                        try clear hx1
                        try clear c2
                        try clear c2b0
                        try clear p2
                        try clear q2
                        try clear hx2
                        try clear c3
                        try clear c3b0
                        try clear c5
                        try clear c5b0
                        try clear c5b1
                        try clear c6
                        try clear c6b0
                        try clear c6b1
                        try clear p6
                        try clear p7
                        try clear q7
                        try clear hx7
                        try clear qi7
                        try clear c8
                        try clear c8b0
                        try clear c9
                        try clear c9b0
                        try clear c11
                        try clear c11b0
                        try clear c12
                        try clear c12b0
                        try clear p13
                        try clear q13
                        try clear hx13
                        try clear c14
                        try clear c14b0
                        try clear c16
                        try clear c16b0
                        try clear c17
                        try clear c17b0
                        try clear p18
                        try clear q18
                        try clear hx18
                        try clear c19
                        try clear c21
                        try clear c21b0
                        try clear c22
                        try clear c22b0
                        try clear p23
                        try clear q23
                        try clear hx23
                        try clear c24
                        try clear c24b0
                        try clear p1
                        try clear p13
                        try clear p18
                        try clear p2
                        try clear p23
                        try clear p6
                        try clear p7
                        try clear q1
                        try clear q13
                        try clear q18
                        try clear q23
                        try clear q7
                        obtain ⟨x6_3, x7_3, rfl, rfl, HA, HK3, ⟨m3, rfl⟩⟩ := hrel
                        cases gk with
                        | zero => exact absurd HA.out (by simp [rematchref01_varint.l1])
                        | succ k3 =>
                          have H := HA.out
                          clear HA
                          simp only [rematchref01_varint.l1] at H
                          by_cases c25 : x7_3 ≥ 0
                          · rw [if_pos c25] at H
                            have c25b0 : decide (0 ≤ x7_3) = true := decide_eq_true c25
                            clear c25
                            by_cases c26 : 0 ≤ x7_3
                            · rw [if_pos c26] at H
                              have c26b0 : decide (0 ≤ x7_3) = true := decide_eq_true c26
                              clear c26
                              by_cases c27 : x7_3 < (a0.size : Int)
                              · rw [if_pos c27] at H
                                have c27b0 : decide (x7_3 < (a0.size : Int)) = true := decide_eq_true c27
                                clear c27
                                have H' := Aside0.mk H
                                clear H
                                have p28 : 0 ≤ (x7_3 : Int) := of_decide_eq_true (by first | (with_reducible assumption) | assumption)
                                have q28 : x7_3 < (a0.size : Int) := of_decide_eq_true (by first | (with_reducible assumption) | assumption)
                                have hx28 := bt_at a0 x7_3
                                replace p28 := eq_true p28
                                replace q28 := eq_true q28
                                go_wp2
                                go_roundg k3
                                case measure => have := HK1.out; have := HJ3.out; have := HK3.out; omega
                                case rel => exact ⟨(IntKind.u64.wrap ((IntKind.u64.wrap (x6_3 * 128)) + (IntKind.u64.wrap (Int.tmod (bt a0 x7_3) 128)))), (wrap64 (x7_3 - 1)), (by first | rfl | (simp; done) | (simp [*]; done)), (by first | rfl | (simp; done) | (simp [*]; done)), H', ⟨by have := HK1.out; have := HJ3.out; have := HK3.out; omega⟩, by repeat (first | exact Drawn0.refl _ | apply Drawn0.step)⟩
                              · rw [if_neg c27] at H
                                exact absurd H (by simp)
                            · rw [if_neg c26] at H
                              exact absurd H (by simp)
                          · rw [if_neg c25] at H
                            have c25b0 : decide (0 ≤ x7_3) = false := decide_eq_false c25
                            clear c25
                            simp only [Option.some.injEq, Prod.mk.injEq] at H
                            obtain ⟨rfl, rfl, rfl⟩ := H
                            go_wp2
                            go_ret3
                            exact ⟨by first | rfl | (simp; done) | (simp only [← hji20] <;> (first | rfl | simp)) | (simp [*]; done), by repeat (first | exact Drawn0.refl _ | apply Drawn0.step)⟩
                  · rw [if_neg c22] at H
                    exact absurd H (by simp)
                · rw [if_neg c21] at H
                  exact absurd H (by simp)
      · rw [if_neg c2] at H
        have c2b0 : decide (x5_1 ≤ 10) = false := decide_eq_false c2
        clear c2
        simp only [Option.some.injEq, Prod.mk.injEq] at H
        obtain ⟨rfl, rfl, rfl⟩ := H
        go_wp2
        go_ret3
        exact ⟨by first | rfl | (simp; done) | (simp [*]; done), by repeat (first | exact Drawn0.refl _ | apply Drawn0.step)⟩

/-! ### rematchref01_Reader_Num: function 38 -/
def rematchref01_Reader_Num.f (k : Nat) (a0_0 : ByteArray) (a0_1 : Int) (a0_2 : Int) (a1 : Int) : Option (Int × ByteArray × Int × Int) := if a0_2 = 0 then ((rematchref01_varint.f k a0_0).bind fun bt119 => (if bt119.2.2 = 0 then (if bt119.1 > a1 then ((rematchref01_Reader_fails.f a0_0 a0_1 a0_2 4).bind fun bt125 => (some (0, bt125.1, bt125.2.1, bt125.2.2))) else ((rematchref01_Reader_skip.f a0_0 a0_1 a0_2 bt119.2.1).bind fun bt128 => (some (bt119.1, bt128.1, bt128.2.1, bt128.2.2)))) else ((rematchref01_Reader_fails.f a0_0 a0_1 a0_2 bt119.2.2).bind fun bt122 => (some (0, bt122.1, bt122.2.1, bt122.2.2))))) else (some (0, a0_0, a0_1, a0_2))
theorem rematchref01_Reader_Num.mono : ∀ a0 a1 a2 a3 k, LeO (rematchref01_Reader_Num.f k a0 a1 a2 a3) (rematchref01_Reader_Num.f (k + 1) a0 a1 a2 a3) := by
  intro a0 a1 a2 a3 k
  unfold rematchref01_Reader_Num.f
  repeat' first
      | (with_reducible exact rematchref01_varint.mono _ _)
      | (with_reducible exact LeO.refl _)
      | (with_reducible exact LeO.none _)
      | (with_reducible refine LeO.ite ?_ ?_)
      | (with_reducible refine LeO.bind ?_ (fun _ => ?_))
      | exact rematchref01_varint.mono _ _
      | exact LeO.none _
      | refine LeO.ite ?_ ?_
      | refine LeO.bind ?_ (fun _ => ?_)
set_option maxHeartbeats 2000000 in
theorem rematchref01_Reader_Num.calls (k : Nat) (a0_0 : ByteArray) (a0_1 : Int) (a0_2 : Int) (a1 : Int) (r1 : Int) (r2 : ByteArray) (r3 : Int) (r4 : Int) (w : World) (h : rematchref01_Reader_Num.f k a0_0 a0_1 a0_2 a1 = some (r1, r2, r3, r4)) :
    Calls Tryd.prog 25 #[.agg #[.string a0_0, .int .i64 a0_1, .int .i64 a0_2], .int .u64 a1] w fun e w' => e = .returned (.tuple #[.int .u64 r1, .agg #[.string r2, .int .i64 r3, .int .i64 r4]]) ∧ Below w.heap.size w w' := by
  unfold rematchref01_Reader_Num.f at h
  have b1 := below_alloc (Below.refl w.heap.size w) (.cells #[.string a0_0, .int .i64 a0_1, .int .i64 a0_2] 57)
  have h1 : (w.alloc (.cells #[.string a0_0, .int .i64 a0_1, .int .i64 a0_2] 57)).heap[w.heap.size]? = some (.cells #[.string a0_0, .int .i64 a0_1, .int .i64 a0_2] 57 (0, 0)) := heap_alloc_new _ _
  by_cases c3 : a0_2 = 0
  · rw [if_pos c3] at h
    have c3b : (a0_2 != 0) = false := bne_eq_false_iff_eq.mpr c3
    obtain ⟨⟨x, n, e⟩, hv, h⟩ := Option.bind_eq_some_iff.mp h
    have HV := Lib.hid hv
    clear c3 hv
    by_cases he : e = 0
    · replace h : (if e = 0 then (if x > a1 then ((rematchref01_Reader_fails.f a0_0 a0_1 a0_2 4).bind fun bt125 => (some (0, bt125.1, bt125.2.1, bt125.2.2))) else ((rematchref01_Reader_skip.f a0_0 a0_1 a0_2 n).bind fun bt128 => (some (x, bt128.1, bt128.2.1, bt128.2.2)))) else ((rematchref01_Reader_fails.f a0_0 a0_1 a0_2 e).bind fun bt122 => (some ((0 : Int), bt122.1, bt122.2.1, bt122.2.2)))) = some (r1, r2, r3, r4) := h
      rw [if_pos he] at h
      have heb : (e != 0) = false := bne_eq_false_iff_eq.mpr he
      by_cases hx : x > a1
      · rw [if_pos hx] at h
        have hxb : decide (a1 < x) = true := decide_eq_true hx
        obtain ⟨⟨t1, t2, t3⟩, hf, h⟩ := Option.bind_eq_some_iff.mp h
        have HF := Lib.hid hf
        obtain ⟨rfl, rfl, rfl, rfl⟩ : (0 : Int) = r1 ∧ t1 = r2 ∧ t2 = r3 ∧ t3 = r4 := by simpa using h
        clear h hf hx he
        go_enter Tryd.func25, Tryd.ntmps25
        go_wp2_with fail
        refine (rematchref01_varint.calls k a0_0 x n e _ HV.out).mono ?_; rintro e2 w2 ⟨rfl, ⟨m, rfl⟩⟩
        go_wp2_with fail
        refine (rematchref01_Reader_fails.calls a0_0 a0_1 a0_2 4 t1 t2 t3 _ HF.out).mono ?_; rintro e3 w3 ⟨rfl, hb3⟩
        have g2 := heap_alloc_new (w.alloc (.cells #[.string a0_0, .int .i64 a0_1, .int .i64 a0_2] 57)) (.cells #[.string ⟨#[]⟩, .int .i64 0, .int .i64 0] 57)
        have bA : Below w.heap.size w (((w.alloc (.cells #[.string a0_0, .int .i64 a0_1, .int .i64 a0_2] 57)).alloc (.cells #[.string ⟨#[]⟩, .int .i64 0, .int .i64 0] 57)).drewN m) := pw_below_drewN (below_alloc (below_alloc (Below.refl _ _) _) _) m
        have g3 : w3.heap[w.heap.size + 1]? = some (.cells #[.string ⟨#[]⟩, .int .i64 0, .int .i64 0] 57 (0, 0)) := (hb3.block _ (by simp)).trans (by simpa using g2)
        have bB := below_then bA bA.size hb3
        have q0 : w3.cell? ⟨w.heap.size + 1, 0, none⟩ = some (.string ⟨#[]⟩) := blk_cell g3 0
        have q1 : w3.cell? ⟨w.heap.size + 1, 1, none⟩ = some (.int .i64 0) := blk_cell g3 1
        have q2 : w3.cell? ⟨w.heap.size + 1, 2, none⟩ = some (.int .i64 0) := blk_cell g3 2
        have qf0 := blk_frozen g3 0
        have qf1 := blk_frozen g3 1
        have qf2 := blk_frozen g3 2
        have BB := Lib.hid bB
        clear g2 g3 bA bB hb3 h1 b1
        go_wp2_with fail
        exact bodyPost_ret (v := .tuple #[.int .u64 0, .agg #[.string t1, .int .i64 t2, .int .i64 t3]]) (by simp [results, Tryd.results38, go_sem, q0, q1, q2]) rfl ⟨rfl, ((BB.out.setCell (by simp) _).setCell (by simp) _).setCell (by simp) _⟩
      · rw [if_neg hx] at h
        have hxb : decide (a1 < x) = false := decide_eq_false hx
        obtain ⟨⟨t1, t2, t3⟩, hf, h⟩ := Option.bind_eq_some_iff.mp h
        have HF := Lib.hid hf
        obtain ⟨rfl, rfl, rfl, rfl⟩ : x = r1 ∧ t1 = r2 ∧ t2 = r3 ∧ t3 = r4 := by simpa using h
        clear h hf hx he
        go_enter Tryd.func25, Tryd.ntmps25
        go_wp2_with fail
        refine (rematchref01_varint.calls k a0_0 x n e _ HV.out).mono ?_; rintro e2 w2 ⟨rfl, ⟨m, rfl⟩⟩
        go_wp2_with fail
        refine (rematchref01_Reader_skip.calls a0_0 a0_1 a0_2 n t1 t2 t3 _ HF.out).mono ?_; rintro e3 w3 ⟨rfl, hb3⟩
        have g2 := heap_alloc_new (w.alloc (.cells #[.string a0_0, .int .i64 a0_1, .int .i64 a0_2] 57)) (.cells #[.string ⟨#[]⟩, .int .i64 0, .int .i64 0] 57)
        have bA : Below w.heap.size w (((w.alloc (.cells #[.string a0_0, .int .i64 a0_1, .int .i64 a0_2] 57)).alloc (.cells #[.string ⟨#[]⟩, .int .i64 0, .int .i64 0] 57)).drewN m) := pw_below_drewN (below_alloc (below_alloc (Below.refl _ _) _) _) m
        have g3 : w3.heap[w.heap.size + 1]? = some (.cells #[.string ⟨#[]⟩, .int .i64 0, .int .i64 0] 57 (0, 0)) := (hb3.block _ (by simp)).trans (by simpa using g2)
        have bB := below_then bA bA.size hb3
        have q0 : w3.cell? ⟨w.heap.size + 1, 0, none⟩ = some (.string ⟨#[]⟩) := blk_cell g3 0
        have q1 : w3.cell? ⟨w.heap.size + 1, 1, none⟩ = some (.int .i64 0) := blk_cell g3 1
        have q2 : w3.cell? ⟨w.heap.size + 1, 2, none⟩ = some (.int .i64 0) := blk_cell g3 2
        have qf0 := blk_frozen g3 0
        have qf1 := blk_frozen g3 1
        have qf2 := blk_frozen g3 2
        have BB := Lib.hid bB
        clear g2 g3 bA bB hb3 h1 b1
        go_wp2_with fail
        exact bodyPost_ret (v := .tuple #[.int .u64 x, .agg #[.string t1, .int .i64 t2, .int .i64 t3]]) (by simp [results, Tryd.results38, go_sem, q0, q1, q2]) rfl ⟨rfl, ((BB.out.setCell (by simp) _).setCell (by simp) _).setCell (by simp) _⟩
    · replace h : (if e = 0 then (if x > a1 then ((rematchref01_Reader_fails.f a0_0 a0_1 a0_2 4).bind fun bt125 => (some (0, bt125.1, bt125.2.1, bt125.2.2))) else ((rematchref01_Reader_skip.f a0_0 a0_1 a0_2 n).bind fun bt128 => (some (x, bt128.1, bt128.2.1, bt128.2.2)))) else ((rematchref01_Reader_fails.f a0_0 a0_1 a0_2 e).bind fun bt122 => (some ((0 : Int), bt122.1, bt122.2.1, bt122.2.2)))) = some (r1, r2, r3, r4) := h
      rw [if_neg he] at h
      have heb : (e != 0) = true := bne_iff_ne.mpr he
      obtain ⟨⟨t1, t2, t3⟩, hf, h⟩ := Option.bind_eq_some_iff.mp h
      have HF := Lib.hid hf
      obtain ⟨rfl, rfl, rfl, rfl⟩ : (0 : Int) = r1 ∧ t1 = r2 ∧ t2 = r3 ∧ t3 = r4 := by simpa using h
      clear h hf he
      go_enter Tryd.func25, Tryd.ntmps25
      go_wp2_with fail
      refine (rematchref01_varint.calls k a0_0 x n e _ HV.out).mono ?_; rintro e2 w2 ⟨rfl, ⟨m, rfl⟩⟩
      go_wp2_with fail
      refine (rematchref01_Reader_fails.calls a0_0 a0_1 a0_2 e t1 t2 t3 _ HF.out).mono ?_; rintro e3 w3 ⟨rfl, hb3⟩
      have g2 := heap_alloc_new (w.alloc (.cells #[.string a0_0, .int .i64 a0_1, .int .i64 a0_2] 57)) (.cells #[.string ⟨#[]⟩, .int .i64 0, .int .i64 0] 57)
      have bA : Below w.heap.size w (((w.alloc (.cells #[.string a0_0, .int .i64 a0_1, .int .i64 a0_2] 57)).alloc (.cells #[.string ⟨#[]⟩, .int .i64 0, .int .i64 0] 57)).drewN m) := pw_below_drewN (below_alloc (below_alloc (Below.refl _ _) _) _) m
      have g3 : w3.heap[w.heap.size + 1]? = some (.cells #[.string ⟨#[]⟩, .int .i64 0, .int .i64 0] 57 (0, 0)) := (hb3.block _ (by simp)).trans (by simpa using g2)
      have bB := below_then bA bA.size hb3
      have q0 : w3.cell? ⟨w.heap.size + 1, 0, none⟩ = some (.string ⟨#[]⟩) := blk_cell g3 0
      have q1 : w3.cell? ⟨w.heap.size + 1, 1, none⟩ = some (.int .i64 0) := blk_cell g3 1
      have q2 : w3.cell? ⟨w.heap.size + 1, 2, none⟩ = some (.int .i64 0) := blk_cell g3 2
      have qf0 := blk_frozen g3 0
      have qf1 := blk_frozen g3 1
      have qf2 := blk_frozen g3 2
      have BB := Lib.hid bB
      clear g2 g3 bA bB hb3 h1 b1
      go_wp2_with fail
      exact bodyPost_ret (v := .tuple #[.int .u64 0, .agg #[.string t1, .int .i64 t2, .int .i64 t3]]) (by simp [results, Tryd.results38, go_sem, q0, q1, q2]) rfl ⟨rfl, ((BB.out.setCell (by simp) _).setCell (by simp) _).setCell (by simp) _⟩
  · rw [if_neg c3] at h
    have c3b : (a0_2 != 0) = true := bne_iff_ne.mpr c3
    simp only [Option.some.injEq, Prod.mk.injEq] at h
    obtain ⟨rfl, rfl, rfl, rfl⟩ := h
    clear h1 b1 c3
    go_enter Tryd.func25, Tryd.ntmps25
    go_wp2
    go_region
    all_goals
      go_wp2
      exact bodyPost_ret (v := .tuple #[.int .u64 0, .agg #[.string a0_0, .int .i64 a0_1, .int .i64 a0_2]]) (by simp [results, Tryd.results38, go_sem]) rfl ⟨rfl, below_drew1 (below_alloc (below_alloc (Below.refl _ _) _) _)⟩


end Go.Proofs.YtigcgdhihaibbaaDoor.PTk
