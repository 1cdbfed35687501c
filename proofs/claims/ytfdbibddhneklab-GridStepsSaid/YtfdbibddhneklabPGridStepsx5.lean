-- by a program of ours (the kit's print, turned, and hand texts beside it), out of the translation; not trusted: Lean checks it
import Derived.Test.YtfdbibddhneklabPGridStepsx0
import Derived.Test.YtfdbibddhneklabPGridStepsx2
import Derived.Test.YtfdbibddhneklabPGridStepsx3
import Derived.Test.YtfdbibddhneklabPGridStepsx4
namespace Go.Proofs.Ytfdbibddhneklab.PGridSteps
open Go.RowKit Go.Proofs.YtfdbibddhneklabW.PrintWords Go.Proofs.YtfdbibddhneklabW.PrintLast Go.Proofs.YtfdbibddhneklabW.PrintMore
attribute [local go_sem] max2_int min2_int max_two min_two max_three min_three max_four min_four   -- for this text's walks alone
set_option linter.unusedVariables false
set_option linter.unusedSimpArgs false

/-! ### rematchlaw07_GridSteps: function 8 -/
mutual
def rematchlaw07_GridSteps.j0 : Nat → Int → Int → Int → Int → Bool → Int → Int → ByteArray → Option (Bool)
  | 0, _, _, _, _, _, _, _, _ => none
  | k + 1, x2, x3, x9, x10, x50, x144000, x144001, x144002 => if x50 = true then (none) else (if (wrap64 (x9 * x10)) = 0 then (none) else (if 0 ≤ (wrap64 (x9 * x10)) then (if (wrap64 (x9 * x10) : Int).toNat ≤ 35184372088832 then (rematchlaw07_GridSteps.l0 k x3 x9 x10 (Int.tmod (wrap64 (x2)) (wrap64 (x9 * x10))) (List.replicate (wrap64 (x9 * x10) : Int).toNat 0) (([Int.tmod (wrap64 (x2)) (wrap64 (x9 * x10))] : List Int)) x144000 x144001 x144002) else (none)) else (none)))
def rematchlaw07_GridSteps.l0 : Nat → Int → Int → Int → Int → List Int → List Int → Int → Int → ByteArray → Option (Bool)
  | 0, _, _, _, _, _, _, _, _, _ => none
  | k + 1, x3, x9, x10, x13, x14, x15, x144000, x144001, x144002 => if (x15.length : Int) > 0 then (if 0 < (x15.length : Int) then (if 1 ≤ (x15.length : Int) then ((grid_Map_Next.f x144000 x144001 x144002 (rd x15 0)).bind fun t155 => (rematchlaw07_GridSteps.l1 k x3 x9 x10 x13 x14 (x15.drop (1 : Int).toNat) (rd x15 0) t155 0 x144000 x144001 x144002)) else (none)) else (none)) else ((grid_Map_Around.f x144000 x144001 x144002 x13 (wrap64 (x3))).bind fun t170 => (rematchlaw07_GridSteps.l2 k x3 x9 x10 x13 x14 t170 0 0 x144000 x144001 x144002))
def rematchlaw07_GridSteps.l1 : Nat → Int → Int → Int → Int → List Int → List Int → Int → List Int → Int → Int → Int → ByteArray → Option (Bool)
  | 0, _, _, _, _, _, _, _, _, _, _, _, _ => none
  | k + 1, x3, x9, x10, x13, x14, x15, x16, x17, x18, x144000, x144001, x144002 => if x18 < (x17.length : Int) then (if 0 ≤ x18 then ((grid_Map_On.f x144000 x144001 x144002 (rd x17 x18)).bind fun t159 => (if t159 = true then (if (rd x17 x18) = x13 then (rematchlaw07_GridSteps.l1 k x3 x9 x10 x13 x14 x15 x16 x17 (wrap64 (x18 + 1)) x144000 x144001 x144002) else (if 0 ≤ (rd x17 x18) then (if (rd x17 x18) < (x14.length : Int) then (if (rd x14 (rd x17 x18)) = 0 then (if 0 ≤ x16 then (if x16 < (x14.length : Int) then (if x15.length < 17592186044416 then (rematchlaw07_GridSteps.l1 k x3 x9 x10 x13 (x14.set ((rd x17 x18) : Int).toNat (wrap64 ((rd x14 x16) + 1))) (x15 ++ [rd x17 x18]) x16 x17 (wrap64 (x18 + 1)) x144000 x144001 x144002) else (none)) else (none)) else (none)) else (rematchlaw07_GridSteps.l1 k x3 x9 x10 x13 x14 x15 x16 x17 (wrap64 (x18 + 1)) x144000 x144001 x144002)) else (none)) else (none))) else (none))) else (none)) else (rematchlaw07_GridSteps.l0 k x3 x9 x10 x13 x14 x15 x144000 x144001 x144002)
def rematchlaw07_GridSteps.l2 : Nat → Int → Int → Int → Int → List Int → List Int → Int → Int → Int → Int → ByteArray → Option (Bool)
  | 0, _, _, _, _, _, _, _, _, _, _, _ => none
  | k + 1, x3, x9, x10, x13, x14, x19, x20, x21, x144000, x144001, x144002 => if x21 < (wrap64 (x9 * x10)) then ((grid_Map_Far.f k x144000 x144001 x144002 x13 x21).bind fun t174 => (if 0 ≤ x21 then (if x21 < (x14.length : Int) then (if t174 = (rd x14 x21) then (if (rd x14 x21) > (wrap64 (x3)) then (rematchlaw07_GridSteps.l2 k x3 x9 x10 x13 x14 x19 x20 (wrap64 (x21 + 1)) x144000 x144001 x144002) else (if x20 ≥ (x19.length : Int) then (none) else (if 0 ≤ x20 then (if x20 < (x19.length : Int) then (if (rd x19 x20) = x21 then (rematchlaw07_GridSteps.l2 k x3 x9 x10 x13 x14 x19 (wrap64 (x20 + 1)) (wrap64 (x21 + 1)) x144000 x144001 x144002) else (none)) else (none)) else (none)))) else (none)) else (none)) else (none))) else (if x20 = (x19.length : Int) then ((rematchlaw07_wakes.f k).bind fun t173 => (some t173)) else (none))
end
def rematchlaw07_GridSteps.f (k : Nat) (a0 : Int) (a1 : Int) (a2 : Int) (a3 : Int) : Option (Bool) := if 0 ≤ (wrap64 ((wrap64 (4 + (Int.tmod (wrap64 (a0)) 9))) * (wrap64 (4 + (Int.tmod (wrap64 (a1)) 9))))) then (if (wrap64 ((wrap64 (4 + (Int.tmod (wrap64 (a0)) 9))) * (wrap64 (4 + (Int.tmod (wrap64 (a1)) 9)))) : Int).toNat ≤ 281474976710656 then ((grid_New.f (wrap64 (4 + (Int.tmod (wrap64 (a0)) 9))) (wrap64 (4 + (Int.tmod (wrap64 (a1)) 9))) (strOfNums (List.replicate (wrap64 ((wrap64 (4 + (Int.tmod (wrap64 (a0)) 9))) * (wrap64 (4 + (Int.tmod (wrap64 (a1)) 9)))) : Int).toNat 0))).bind fun bt139 => (if bt139.2.2.2 = 0 then ((grid_Map_Len.f bt139.1 bt139.2.1 bt139.2.2.1).bind fun t144 => (rematchlaw07_GridSteps.j0 k a2 a3 (wrap64 (4 + (Int.tmod (wrap64 (a0)) 9))) (wrap64 (4 + (Int.tmod (wrap64 (a1)) 9))) (t144 != (wrap64 ((wrap64 (4 + (Int.tmod (wrap64 (a0)) 9))) * (wrap64 (4 + (Int.tmod (wrap64 (a1)) 9)))))) bt139.1 bt139.2.1 bt139.2.2.1)) else (none))) else (none)) else (none)
theorem rematchlaw07_GridSteps.mono_l : ∀ k, (∀ y0 y1 y2 y3 y4 y5 y6 y7, LeO (rematchlaw07_GridSteps.j0 k y0 y1 y2 y3 y4 y5 y6 y7) (rematchlaw07_GridSteps.j0 (k + 1) y0 y1 y2 y3 y4 y5 y6 y7)) ∧ (∀ y0 y1 y2 y3 y4 y5 y6 y7 y8, LeO (rematchlaw07_GridSteps.l0 k y0 y1 y2 y3 y4 y5 y6 y7 y8) (rematchlaw07_GridSteps.l0 (k + 1) y0 y1 y2 y3 y4 y5 y6 y7 y8)) ∧ (∀ y0 y1 y2 y3 y4 y5 y6 y7 y8 y9 y10 y11, LeO (rematchlaw07_GridSteps.l1 k y0 y1 y2 y3 y4 y5 y6 y7 y8 y9 y10 y11) (rematchlaw07_GridSteps.l1 (k + 1) y0 y1 y2 y3 y4 y5 y6 y7 y8 y9 y10 y11)) ∧ (∀ y0 y1 y2 y3 y4 y5 y6 y7 y8 y9 y10, LeO (rematchlaw07_GridSteps.l2 k y0 y1 y2 y3 y4 y5 y6 y7 y8 y9 y10) (rematchlaw07_GridSteps.l2 (k + 1) y0 y1 y2 y3 y4 y5 y6 y7 y8 y9 y10))
  | 0 => ⟨fun _ _ _ _ _ _ _ _ r h => by simp [rematchlaw07_GridSteps.j0] at h, fun _ _ _ _ _ _ _ _ _ r h => by simp [rematchlaw07_GridSteps.l0] at h, fun _ _ _ _ _ _ _ _ _ _ _ _ r h => by simp [rematchlaw07_GridSteps.l1] at h, fun _ _ _ _ _ _ _ _ _ _ _ r h => by simp [rematchlaw07_GridSteps.l2] at h⟩
  | k + 1 => by
    obtain ⟨ih0, ih1, ih2, ih3⟩ := rematchlaw07_GridSteps.mono_l k
    refine ⟨?_, ?_, ?_, ?_⟩
    · intro y0 y1 y2 y3 y4 y5 y6 y7
      unfold rematchlaw07_GridSteps.j0
      repeat' first
      | (with_reducible exact ih0 _ _ _ _ _ _ _ _)
      | (with_reducible exact ih1 _ _ _ _ _ _ _ _ _)
      | (with_reducible exact ih2 _ _ _ _ _ _ _ _ _ _ _ _)
      | (with_reducible exact ih3 _ _ _ _ _ _ _ _ _ _ _)
      | (with_reducible exact grid_Map_Far.mono _ _ _ _ _ _)
      | (with_reducible exact rematchlaw07_wakes.mono _)
      | (with_reducible exact LeO.refl _)
      | (with_reducible exact LeO.none _)
      | (with_reducible refine LeO.ite ?_ ?_)
      | (with_reducible refine LeO.bind ?_ (fun _ => ?_))
      | exact ih0 _ _ _ _ _ _ _ _
      | exact ih1 _ _ _ _ _ _ _ _ _
      | exact ih2 _ _ _ _ _ _ _ _ _ _ _ _
      | exact ih3 _ _ _ _ _ _ _ _ _ _ _
      | exact grid_Map_Far.mono _ _ _ _ _ _
      | exact rematchlaw07_wakes.mono _
      | exact LeO.none _
      | refine LeO.ite ?_ ?_
      | refine LeO.bind ?_ (fun _ => ?_)
    · intro y0 y1 y2 y3 y4 y5 y6 y7 y8
      unfold rematchlaw07_GridSteps.l0
      repeat' first
      | (with_reducible exact ih0 _ _ _ _ _ _ _ _)
      | (with_reducible exact ih1 _ _ _ _ _ _ _ _ _)
      | (with_reducible exact ih2 _ _ _ _ _ _ _ _ _ _ _ _)
      | (with_reducible exact ih3 _ _ _ _ _ _ _ _ _ _ _)
      | (with_reducible exact grid_Map_Far.mono _ _ _ _ _ _)
      | (with_reducible exact rematchlaw07_wakes.mono _)
      | (with_reducible exact LeO.refl _)
      | (with_reducible exact LeO.none _)
      | (with_reducible refine LeO.ite ?_ ?_)
      | (with_reducible refine LeO.bind ?_ (fun _ => ?_))
      | exact ih0 _ _ _ _ _ _ _ _
      | exact ih1 _ _ _ _ _ _ _ _ _
      | exact ih2 _ _ _ _ _ _ _ _ _ _ _ _
      | exact ih3 _ _ _ _ _ _ _ _ _ _ _
      | exact grid_Map_Far.mono _ _ _ _ _ _
      | exact rematchlaw07_wakes.mono _
      | exact LeO.none _
      | refine LeO.ite ?_ ?_
      | refine LeO.bind ?_ (fun _ => ?_)
    · intro y0 y1 y2 y3 y4 y5 y6 y7 y8 y9 y10 y11
      unfold rematchlaw07_GridSteps.l1
      repeat' first
      | (with_reducible exact ih0 _ _ _ _ _ _ _ _)
      | (with_reducible exact ih1 _ _ _ _ _ _ _ _ _)
      | (with_reducible exact ih2 _ _ _ _ _ _ _ _ _ _ _ _)
      | (with_reducible exact ih3 _ _ _ _ _ _ _ _ _ _ _)
      | (with_reducible exact grid_Map_Far.mono _ _ _ _ _ _)
      | (with_reducible exact rematchlaw07_wakes.mono _)
      | (with_reducible exact LeO.refl _)
      | (with_reducible exact LeO.none _)
      | (with_reducible refine LeO.ite ?_ ?_)
      | (with_reducible refine LeO.bind ?_ (fun _ => ?_))
      | exact ih0 _ _ _ _ _ _ _ _
      | exact ih1 _ _ _ _ _ _ _ _ _
      | exact ih2 _ _ _ _ _ _ _ _ _ _ _ _
      | exact ih3 _ _ _ _ _ _ _ _ _ _ _
      | exact grid_Map_Far.mono _ _ _ _ _ _
      | exact rematchlaw07_wakes.mono _
      | exact LeO.none _
      | refine LeO.ite ?_ ?_
      | refine LeO.bind ?_ (fun _ => ?_)
    · intro y0 y1 y2 y3 y4 y5 y6 y7 y8 y9 y10
      unfold rematchlaw07_GridSteps.l2
      repeat' first
      | (with_reducible exact ih0 _ _ _ _ _ _ _ _)
      | (with_reducible exact ih1 _ _ _ _ _ _ _ _ _)
      | (with_reducible exact ih2 _ _ _ _ _ _ _ _ _ _ _ _)
      | (with_reducible exact ih3 _ _ _ _ _ _ _ _ _ _ _)
      | (with_reducible exact grid_Map_Far.mono _ _ _ _ _ _)
      | (with_reducible exact rematchlaw07_wakes.mono _)
      | (with_reducible exact LeO.refl _)
      | (with_reducible exact LeO.none _)
      | (with_reducible refine LeO.ite ?_ ?_)
      | (with_reducible refine LeO.bind ?_ (fun _ => ?_))
      | exact ih0 _ _ _ _ _ _ _ _
      | exact ih1 _ _ _ _ _ _ _ _ _
      | exact ih2 _ _ _ _ _ _ _ _ _ _ _ _
      | exact ih3 _ _ _ _ _ _ _ _ _ _ _
      | exact grid_Map_Far.mono _ _ _ _ _ _
      | exact rematchlaw07_wakes.mono _
      | exact LeO.none _
      | refine LeO.ite ?_ ?_
      | refine LeO.bind ?_ (fun _ => ?_)
theorem rematchlaw07_GridSteps.mono : ∀ a0 a1 a2 a3 k, LeO (rematchlaw07_GridSteps.f k a0 a1 a2 a3) (rematchlaw07_GridSteps.f (k + 1) a0 a1 a2 a3) := by
  intro a0 a1 a2 a3 k
  obtain ⟨ih0, ih1, ih2, ih3⟩ := rematchlaw07_GridSteps.mono_l k
  unfold rematchlaw07_GridSteps.f
  repeat' first
      | (with_reducible exact ih0 _ _ _ _ _ _ _ _)
      | (with_reducible exact ih1 _ _ _ _ _ _ _ _ _)
      | (with_reducible exact ih2 _ _ _ _ _ _ _ _ _ _ _ _)
      | (with_reducible exact ih3 _ _ _ _ _ _ _ _ _ _ _)
      | (with_reducible exact grid_Map_Far.mono _ _ _ _ _ _)
      | (with_reducible exact rematchlaw07_wakes.mono _)
      | (with_reducible exact LeO.refl _)
      | (with_reducible exact LeO.none _)
      | (with_reducible refine LeO.ite ?_ ?_)
      | (with_reducible refine LeO.bind ?_ (fun _ => ?_))
      | exact ih0 _ _ _ _ _ _ _ _
      | exact ih1 _ _ _ _ _ _ _ _ _
      | exact ih2 _ _ _ _ _ _ _ _ _ _ _ _
      | exact ih3 _ _ _ _ _ _ _ _ _ _ _
      | exact grid_Map_Far.mono _ _ _ _ _ _
      | exact rematchlaw07_wakes.mono _
      | exact LeO.none _
      | refine LeO.ite ?_ ?_
      | refine LeO.bind ?_ (fun _ => ?_)
def rematchlaw07_GridSteps.T18 : Bool × List (List Nat × List Nat) := (true, [([], []), ([], []), ([], []), ([1, 2], [1, 2]), ([3], [3]), ([], []), ([], []), ([5, 6], [5, 6]), ([7], [7]), ([8], [8]), ([0, 4, 0, 1, 2, 3, 4, 5, 6, 7, 8, 9], [0, 4]), ([10, 9, 0, 1, 2, 3, 4, 5, 6, 7, 8, 9], [9, 10])])
def rematchlaw07_GridSteps.B18 : List Nat := [0, 0, 0, 6, 14, 0, 0, 96, 224, 480, 1023, 2047]
theorem rematchlaw07_GridSteps.tab18 : rtab .any (opsOf Try.f8 18) = rematchlaw07_GridSteps.T18 := by kernel_rfl
theorem rematchlaw07_GridSteps.bits18 : waitsOk rematchlaw07_GridSteps.T18.2 rematchlaw07_GridSteps.B18 = true := by kernel_rfl
def rematchlaw07_GridSteps.T25 : Bool × List (List Nat × List Nat) := (true, [([], []), ([], []), ([], []), ([0, 1, 2], [0, 1, 2]), ([], []), ([], []), ([4, 5], [4, 5]), ([6], [6]), ([3, 7], [3, 7])])
def rematchlaw07_GridSteps.B25 : List Nat := [0, 0, 0, 7, 0, 0, 48, 112, 255]
theorem rematchlaw07_GridSteps.tab25 : rtab .any (opsOf Try.f8 25) = rematchlaw07_GridSteps.T25 := by kernel_rfl
theorem rematchlaw07_GridSteps.bits25 : waitsOk rematchlaw07_GridSteps.T25.2 rematchlaw07_GridSteps.B25 = true := by kernel_rfl
set_option maxHeartbeats 8000000 in
set_option maxRecDepth 100000 in
theorem rematchlaw07_GridSteps.calls (k : Nat) (a0 : Int) (a1 : Int) (a2 : Int) (a3 : Int) (r : Bool) (w : World) (h : rematchlaw07_GridSteps.f k a0 a1 a2 a3 = some r) :
    Calls Try.prog 8 #[.int .u8 a0, .int .u8 a1, .int .u8 a2, .int .u8 a3] w fun e w' => e = .returned (.bool r) ∧ Below w.heap.size w w' := by
  have hu77 := Try.underlying77
  have HB := Aside0.mk (Below.refl w.heap.size w)
  have H : (if 0 ≤ (wrap64 ((wrap64 (4 + (Int.tmod (wrap64 (a0)) 9))) * (wrap64 (4 + (Int.tmod (wrap64 (a1)) 9))))) then (if (wrap64 ((wrap64 (4 + (Int.tmod (wrap64 (a0)) 9))) * (wrap64 (4 + (Int.tmod (wrap64 (a1)) 9)))) : Int).toNat ≤ 281474976710656 then ((grid_New.f (wrap64 (4 + (Int.tmod (wrap64 (a0)) 9))) (wrap64 (4 + (Int.tmod (wrap64 (a1)) 9))) (strOfNums (List.replicate (wrap64 ((wrap64 (4 + (Int.tmod (wrap64 (a0)) 9))) * (wrap64 (4 + (Int.tmod (wrap64 (a1)) 9)))) : Int).toNat 0))).bind fun bt139 => (if bt139.2.2.2 = 0 then ((grid_Map_Len.f bt139.1 bt139.2.1 bt139.2.2.1).bind fun t144 => (rematchlaw07_GridSteps.j0 k a2 a3 (wrap64 (4 + (Int.tmod (wrap64 (a0)) 9))) (wrap64 (4 + (Int.tmod (wrap64 (a1)) 9))) (t144 != (wrap64 ((wrap64 (4 + (Int.tmod (wrap64 (a0)) 9))) * (wrap64 (4 + (Int.tmod (wrap64 (a1)) 9)))))) bt139.1 bt139.2.1 bt139.2.2.1)) else (none))) else (none)) else (none)) = some r := h
  clear h
  obtain ⟨ji5, hji5⟩ : ∃ j_ : Int, (wrap64 ((wrap64 (4 + (Int.tmod (wrap64 (a0)) 9))) * (wrap64 (4 + (Int.tmod (wrap64 (a1)) 9))))) = j_ := ⟨_, rfl⟩
  replace H : (if 0 ≤ (ji5) then (if (ji5 : Int).toNat ≤ 281474976710656 then ((grid_New.f (wrap64 (4 + (Int.tmod (wrap64 (a0)) 9))) (wrap64 (4 + (Int.tmod (wrap64 (a1)) 9))) (strOfNums (List.replicate (ji5 : Int).toNat 0))).bind fun bt139 => (if bt139.2.2.2 = 0 then ((grid_Map_Len.f bt139.1 bt139.2.1 bt139.2.2.1).bind fun t144 => (rematchlaw07_GridSteps.j0 k a2 a3 (wrap64 (4 + (Int.tmod (wrap64 (a0)) 9))) (wrap64 (4 + (Int.tmod (wrap64 (a1)) 9))) (t144 != (ji5)) bt139.1 bt139.2.1 bt139.2.2.1)) else (none))) else (none)) else (none)) = some r := by first | (rw [hji5] at H; exact H) | (simp only [hji5] at H ⊢; exact H)
  have hji5w : (IntKind.i64.wrap ((wrap64 (4 + (Int.tmod (wrap64 (a0)) 9))) * (wrap64 (4 + (Int.tmod (wrap64 (a1)) 9))))) = ji5 := (i64_w _).trans hji5
  by_cases c6 : 0 ≤ (ji5)
  · rw [if_pos c6] at H
    have c6b0 := eq_true c6
    have c6b1 : decide (0 ≤ (ji5)) = true := decide_eq_true c6
    clear c6
    by_cases c7 : (ji5 : Int).toNat ≤ 281474976710656
    · rw [if_pos c7] at H
      have c7b0 := eq_true c7
      have c7b1 : decide ((ji5 : Int).toNat ≤ 281474976710656) = true := decide_eq_true c7
      clear c7
      obtain ⟨y136, hy136⟩ : ∃ y_ : List Int, y_ = (List.replicate (ji5 : Int).toNat 0) := ⟨_, rfl⟩
      replace H : ((grid_New.f (wrap64 (4 + (Int.tmod (wrap64 (a0)) 9))) (wrap64 (4 + (Int.tmod (wrap64 (a1)) 9))) (strOfNums y136)).bind fun bt139 => (if bt139.2.2.2 = 0 then ((grid_Map_Len.f bt139.1 bt139.2.1 bt139.2.2.1).bind fun t144 => (rematchlaw07_GridSteps.j0 k a2 a3 (wrap64 (4 + (Int.tmod (wrap64 (a0)) 9))) (wrap64 (4 + (Int.tmod (wrap64 (a1)) 9))) (t144 != (ji5)) bt139.1 bt139.2.1 bt139.2.2.1)) else (none))) = some r := by first | (rw [hy136]; with_reducible exact H) | (have H2_ := (Option.bind_some _ _).symm.trans H; rw [hy136]; with_reducible exact H2_) | (have H2_ := (Option.bind_some _ _).symm.trans H; with_reducible exact H2_) | with_reducible exact H | (rw [hy136]; exact H) | exact H
      have Ny136 := Aside0.mk hy136
      clear hy136
      replace H := Option.bind_eq_some_iff.mp H
      obtain ⟨⟨t139, t140, t141, t142⟩, A80, H⟩ := H
      replace H : (if t142 = 0 then ((grid_Map_Len.f t139 t140 t141).bind fun t144 => (rematchlaw07_GridSteps.j0 k a2 a3 (wrap64 (4 + (Int.tmod (wrap64 (a0)) 9))) (wrap64 (4 + (Int.tmod (wrap64 (a1)) 9))) (t144 != (ji5)) t139 t140 t141)) else (none)) = some r := H
      have A8 := Aside0.mk A80
      clear A80
      have HC9 := Aside0.mk H
      clear H
      go_enter Try.func8, Try.ntmps8
      go_upto_region 3 with (first | ((with_reducible refine gate_dst (N := 36) rfl ?_); refine Kd.R_make (Kd.int .u8) _ 5 rfl (N := 36) rfl 81 _ _ rfl ji5 rfl rfl Try.underlying81 (.int .u8 0) 1 info5 rfl (by decide) (by omega) 0 (ok := fun _ => True) (okp := fun _ => True) rfl (fun _ hk => hk) trivial (of_decide_eq_true (by first | (with_reducible assumption) | assumption)) (Nat.le_trans (Nat.mul_le_mul_right _ (of_decide_eq_true (by first | (with_reducible assumption) | assumption) : ji5.toNat ≤ 281474976710656)) (by omega)) (Below.refl _ _) (Nat.le_refl _) ?_; intro v137 w10 ho11 hb hg_ hnew_; clear hg_ hnew_; (first | rw [← Ny136.out] at ho11 | (simp only [Int.reduceToNat] at ho11; rw [← Ny136.out] at ho11)); have n0_ := Aside0.mk (Kd.R_lower ho11 (below_size (by repeat (first | (with_reducible first | exact HB.out | apply below_alloc | apply pw_below_drewN | apply below_drew1) | exact HB.out)))); have n1_ := Aside0.mk (below_step (by repeat (first | (with_reducible first | exact HB.out | apply below_alloc | apply pw_below_drewN | apply below_drew1) | exact HB.out)) hb); clear HB; have HO138 := n0_; have HB := n1_; clear n0_ n1_; clear hb ho11; have hcv12 := own_string (P := Try.prog) Try.underlying81 Try.underlying5 Try.underlying9 (Kd.own_of_R HO138.out)) | ((with_reducible refine gate_callee (f := 32) rfl ?_); refine goesL_ (some 38) rfl rfl Try.func32 (by kernel_rfl) rfl #[.int .i64 (wrap64 (4 + (Int.tmod (wrap64 (a0)) 9))), .int .i64 (wrap64 (4 + (Int.tmod (wrap64 (a1)) 9))), .string (strOfNums y136)] rfl (by (try simp only [List.map_toArray, List.map_cons, List.map_nil]); first | done | rfl | (simp only [List.length_drop, List.length_take]; rfl)) ?_; (with_reducible refine (grid_New.calls (wrap64 (4 + (Int.tmod (wrap64 (a0)) 9))) (wrap64 (4 + (Int.tmod (wrap64 (a1)) 9))) (strOfNums y136) t139 t140 t141 t142 _ A8.out).mono ?_); rintro e w13 ⟨rfl, hb⟩; refine ⟨_, rfl, ?_⟩; have n0_ := Aside0.mk (Kd.R_below (by (with_reducible repeat (first | apply Kd.R_alloc | apply Kd.R_drewN | apply Kd.R_drew)); exact HO138.out) hb); have n1_ := Aside0.mk (below_step (by repeat (first | (with_reducible first | exact HB.out | apply below_alloc | apply pw_below_drewN | apply below_drew1) | exact HB.out)) hb); clear HO138; clear HB; have HO138 := n0_; have HB := n1_; clear n0_ n1_; (try clear hb); (try clear hb2); (try clear hk); (try clear hi)) | ((with_reducible refine gate_dst (N := 11) rfl ?_); refine box_event ?hg (N := 11) ?hd (cs := #[.int .i64 0, .int .i64 0, .string (⟨#[]⟩ : ByteArray)]) (t := 77) ?hr ?_; (case hd => rfl); (case hg => rfl); (case hr => first | (go_simp; done) | (go_simp; rfl)); intro gb143 hg w14 hbox hb; have n0_ := Aside0.mk (Kd.R_below (by (with_reducible repeat (first | apply Kd.R_alloc | apply Kd.R_drewN | apply Kd.R_drew)); exact HO138.out) hb); have n1_ := Aside0.mk (below_step (by repeat (first | (with_reducible first | exact HB.out | apply below_alloc | apply pw_below_drewN | apply below_drew1) | exact HB.out)) hb); have n2_ := Aside0.mk (hbox); have n3_ := Aside0.mk ((by rw [hg]; exact (below_size (by repeat (first | (with_reducible first | exact HB.out | apply below_alloc | apply pw_below_drewN | apply below_drew1) | exact HB.out))) : w.heap.size ≤ gb143)); have n4_ := Aside0.mk ((by rw [hg]; exact (below_size (by repeat (first | (with_reducible first | exact HB.out | apply below_alloc | apply pw_below_drewN | apply below_drew1) | exact HB.out))) : w.heap.size ≤ gb143)); clear HO138; clear HB; have HO138 := n0_; have HB := n1_; have BK143 := n2_; have GW143 := n3_; have GE143 := n4_; clear n0_ n1_ n2_ n3_ n4_; clear hb hbox hg; have hcz15_0 : w14.cell? ⟨gb143, 0, none⟩ = some (.int .i64 0) := (blk_cell BK143.out 0).trans rfl; have hcz15_1 : w14.cell? ⟨gb143, 1, none⟩ = some (.int .i64 0) := (blk_cell BK143.out 1).trans rfl; have hcz15_2 : w14.cell? ⟨gb143, 2, none⟩ = some (.string (⟨#[]⟩ : ByteArray)) := (blk_cell BK143.out 2).trans rfl; have hfz15_0 := blk_frozen BK143.out 0; have hfz15_1 := blk_frozen BK143.out 1; have hfz15_2 := blk_frozen BK143.out 2))
      (try simp only [Act.put, List.setIfInBounds_toArray, List.set_cons_zero, List.set_cons_succ])
      go_cut [50] (fun v50 wc => ∃ (kq : Nat) (x50_8 : Bool), v50 = .bool x50_8 ∧ Aside0 (rematchlaw07_GridSteps.j0 kq a2 a3 (wrap64 (4 + (Int.tmod (wrap64 (a0)) 9))) (wrap64 (4 + (Int.tmod (wrap64 (a1)) 9))) x50_8 t139 t140 t141 = some r) ∧ Aside0 (kq ≤ k) ∧ Aside0 (wc.heap[gb143]? = some (.cells #[.int .i64 t139, .int .i64 t140, .string t141] 77 (0, 0))) ∧ Aside0 (Below w.heap.size w wc))
      case first =>
        have H := HC9.out
        clear HC9
        by_cases c16 : t142 = 0
        · rw [if_pos c16] at H
          have c16b0 : (t142 == 0) = true := beq_iff_eq.mpr c16
          have c16b1 : (t142 != 0) = false := bne_eq_false_iff_eq.mpr c16
          clear c16
          (first | rw [c16b0] | (simp only [i64_w, i32_w]; rw [c16b0]) | skip)
          replace H := Option.bind_eq_some_iff.mp H
          obtain ⟨t144, A170, H⟩ := H
          replace H : (rematchlaw07_GridSteps.j0 k a2 a3 (wrap64 (4 + (Int.tmod (wrap64 (a0)) 9))) (wrap64 (4 + (Int.tmod (wrap64 (a1)) 9))) (t144 != (ji5)) t139 t140 t141) = some r := H
          have A17 := Aside0.mk A170
          clear A170
          have H' := Aside0.mk H
          clear H
          have hcz18_0 : w14.cell? ⟨gb143, 0, none⟩ = some (.int .i64 0) := (blk_cell BK143.out 0).trans rfl
          have hcz18_1 : w14.cell? ⟨gb143, 1, none⟩ = some (.int .i64 0) := (blk_cell BK143.out 1).trans rfl
          have hcz18_2 : w14.cell? ⟨gb143, 2, none⟩ = some (.string (⟨#[]⟩ : ByteArray)) := (blk_cell BK143.out 2).trans rfl
          have hfz18_0 := blk_frozen BK143.out 0
          have hfz18_1 := blk_frozen BK143.out 1
          have hfz18_2 := blk_frozen BK143.out 2
          go_wp2_with (first | (go_at_call 33; (with_reducible refine (grid_Map_Len.calls t139 t140 t141 t144 _ A17.out).mono ?_); rintro e w19 ⟨rfl, hb⟩; have n0_ := Aside0.mk (Kd.R_below (by (with_reducible repeat (first | apply Kd.R_alloc | apply Kd.R_drewN | apply Kd.R_drew)); exact (Kd.R_mono (Kd.R_far (p := ⟨gb143, 2, none⟩) (Kd.R_far (p := ⟨gb143, 1, none⟩) (Kd.R_far (p := ⟨gb143, 0, none⟩) (Kd.R_types HO138.out BK143.out (by decide)) (fun _ hk => hk.2) (.int .i64 t139)) (fun _ hk => hk.2) (.int .i64 t140)) (fun _ hk => hk.2) (.string t141)) (fun _ h_ => h_.1))) hb); have n1_ := Aside0.mk (blk_below (g := gb143) (o := .cells #[.int .i64 t139, .int .i64 t140, .string t141] 77 (0, 0)) (by (with_reducible repeat (first | refine blk_drewN ?_ _ | refine blk_drew ?_ | refine blk_alloc ?_ _)); refine blk_put (cs := #[.int .i64 t139, .int .i64 t140, .string (⟨#[]⟩ : ByteArray)]) ?_ 2 _ rfl; (with_reducible repeat (first | refine blk_drewN ?_ _ | refine blk_drew ?_ | refine blk_alloc ?_ _)); refine blk_put (cs := #[.int .i64 t139, .int .i64 0, .string (⟨#[]⟩ : ByteArray)]) ?_ 1 _ rfl; (with_reducible repeat (first | refine blk_drewN ?_ _ | refine blk_drew ?_ | refine blk_alloc ?_ _)); refine blk_put (cs := #[.int .i64 0, .int .i64 0, .string (⟨#[]⟩ : ByteArray)]) ?_ 0 _ rfl; (with_reducible repeat (first | refine blk_drewN ?_ _ | refine blk_drew ?_ | refine blk_alloc ?_ _)); exact BK143.out) hb); have n2_ := Aside0.mk (below_step (by repeat (first | (with_reducible first | exact HB.out | apply below_alloc | apply pw_below_drewN | apply below_drew1 | refine below_set ?_ GE143.out) | exact HB.out)) hb); clear HO138; clear BK143; clear HB; have HO138 := n0_; have BK143 := n1_; have HB := n2_; clear n0_ n1_ n2_; (try clear hb); (try clear hb2); (try clear hk); (try clear hi)))
          go_meet
          case rel => exact ⟨_, ((t144 != (ji5))), (by first | rfl | (simp; done) | (simp only [← hji5] <;> (first | rfl | simp)) | (simp [*]; done)), H', ⟨by first | omega | exact Nat.le_refl _⟩, ⟨by (with_reducible repeat (first | refine blk_drewN ?_ _ | refine blk_drew ?_ | refine blk_alloc ?_ _)); exact BK143.out⟩, ⟨by repeat (first | (with_reducible first | exact HB.out | apply below_alloc | apply pw_below_drewN | apply below_drew1 | refine below_set ?_ GE143.out) | exact HB.out)⟩⟩
        · rw [if_neg c16] at H
          exact absurd H (by simp)
      case rest =>
        clear HC9
        try clear c1
        try clear hcv1
        try clear p2
        try clear c3
        try clear c6
        try clear c6b0
        try clear c6b1
        try clear p6
        try clear c7
        try clear c7b0
        try clear c7b1
        try clear c8
        try clear hcv12
        try clear c16
        try clear c16b0
        try clear c16b1
        try clear hcz15_0
        try clear hcz15_1
        try clear hcz15_2
        try clear hcz18_0
        try clear hcz18_1
        try clear hcz18_2
        try clear hfz15_0
        try clear hfz15_1
        try clear hfz15_2
        try clear hfz18_0
        try clear hfz18_1
        try clear hfz18_2
        obtain ⟨kq, x50_8, rfl, HA, HJ8, BK143, HB⟩ := hcut
        cases kq with
        | zero => exact absurd HA.out (by simp [rematchlaw07_GridSteps.j0])
        | succ kj8 =>
          have H := HA.out
          clear HA
          simp only [rematchlaw07_GridSteps.j0] at H
          by_cases c20 : x50_8 = true
          · subst c20
            have H1 : (none) = some r := by rw [if_pos rfl] at H; exact H
            clear H
            have H := H1
            clear H1
            exact absurd H (by simp)
          · replace c20 := Bool.eq_false_iff.mpr c20
            subst c20
            have H1 : (if (wrap64 ((wrap64 (4 + (Int.tmod (wrap64 (a0)) 9))) * (wrap64 (4 + (Int.tmod (wrap64 (a1)) 9))))) = 0 then (none) else (if 0 ≤ (wrap64 ((wrap64 (4 + (Int.tmod (wrap64 (a0)) 9))) * (wrap64 (4 + (Int.tmod (wrap64 (a1)) 9))))) then (if (wrap64 ((wrap64 (4 + (Int.tmod (wrap64 (a0)) 9))) * (wrap64 (4 + (Int.tmod (wrap64 (a1)) 9)))) : Int).toNat ≤ 35184372088832 then (rematchlaw07_GridSteps.l0 kj8 a3 (wrap64 (4 + (Int.tmod (wrap64 (a0)) 9))) (wrap64 (4 + (Int.tmod (wrap64 (a1)) 9))) (Int.tmod (wrap64 (a2)) (wrap64 ((wrap64 (4 + (Int.tmod (wrap64 (a0)) 9))) * (wrap64 (4 + (Int.tmod (wrap64 (a1)) 9)))))) (List.replicate (wrap64 ((wrap64 (4 + (Int.tmod (wrap64 (a0)) 9))) * (wrap64 (4 + (Int.tmod (wrap64 (a1)) 9)))) : Int).toNat 0) (([Int.tmod (wrap64 (a2)) (wrap64 ((wrap64 (4 + (Int.tmod (wrap64 (a0)) 9))) * (wrap64 (4 + (Int.tmod (wrap64 (a1)) 9)))))] : List Int)) t139 t140 t141) else (none)) else (none))) = some r := by rw [if_neg (show ¬ (false = true) by decide)] at H; exact H
            clear H
            have H := H1
            clear H1
            by_cases c21 : (wrap64 ((wrap64 (4 + (Int.tmod (wrap64 (a0)) 9))) * (wrap64 (4 + (Int.tmod (wrap64 (a1)) 9))))) = 0
            · rw [if_pos c21] at H
              exact absurd H (by simp)
            · rw [if_neg c21] at H
              have c21b0 : ((wrap64 ((wrap64 (4 + (Int.tmod (wrap64 (a0)) 9))) * (wrap64 (4 + (Int.tmod (wrap64 (a1)) 9))))) == 0) = false := beq_eq_false_iff_ne.mpr c21
              have c21b1 : ((wrap64 ((wrap64 (4 + (Int.tmod (wrap64 (a0)) 9))) * (wrap64 (4 + (Int.tmod (wrap64 (a1)) 9))))) != 0) = true := bne_iff_ne.mpr c21
              (try rw [hji5] at c21b0)
              (try rw [hji5] at c21b1)
              obtain ⟨ji22, hji22⟩ : ∃ j_ : Int, (wrap64 ((wrap64 (4 + (Int.tmod (wrap64 (a0)) 9))) * (wrap64 (4 + (Int.tmod (wrap64 (a1)) 9))))) = j_ := ⟨_, rfl⟩
              replace H : (if 0 ≤ (ji22) then (if (ji22 : Int).toNat ≤ 35184372088832 then (rematchlaw07_GridSteps.l0 kj8 a3 (wrap64 (4 + (Int.tmod (wrap64 (a0)) 9))) (wrap64 (4 + (Int.tmod (wrap64 (a1)) 9))) (Int.tmod (wrap64 (a2)) (ji22)) (List.replicate (ji22 : Int).toNat 0) (([Int.tmod (wrap64 (a2)) (ji22)] : List Int)) t139 t140 t141) else (none)) else (none)) = some r := by first | (rw [hji22] at H; exact H) | (simp only [hji22] at H ⊢; exact H)
              (try rw [hji22] at c21b0)
              (try rw [hji22] at c21b1)
              have hji22w : (IntKind.i64.wrap ((wrap64 (4 + (Int.tmod (wrap64 (a0)) 9))) * (wrap64 (4 + (Int.tmod (wrap64 (a1)) 9))))) = ji22 := (i64_w _).trans hji22
              (try obtain rfl : ji22 = ji5 := hji22.symm.trans hji5)
              by_cases c23 : 0 ≤ (ji22)
              · rw [if_pos c23] at H
                have c23b0 := eq_true c23
                have c23b1 : decide (0 ≤ (ji22)) = true := decide_eq_true c23
                clear c23
                by_cases c24 : (ji22 : Int).toNat ≤ 35184372088832
                · rw [if_pos c24] at H
                  have c24b0 := eq_true c24
                  have c24b1 : decide ((ji22 : Int).toNat ≤ 35184372088832) = true := decide_eq_true c24
                  clear c24
                  obtain ⟨y145, hy145⟩ : ∃ y_ : List Int, y_ = (List.replicate (ji22 : Int).toNat 0) := ⟨_, rfl⟩
                  replace H : (rematchlaw07_GridSteps.l0 kj8 a3 (wrap64 (4 + (Int.tmod (wrap64 (a0)) 9))) (wrap64 (4 + (Int.tmod (wrap64 (a1)) 9))) (Int.tmod (wrap64 (a2)) (ji22)) y145 (([Int.tmod (wrap64 (a2)) (ji22)] : List Int)) t139 t140 t141) = some r := by first | (rw [hy145]; with_reducible exact H) | (have H2_ := (Option.bind_some _ _).symm.trans H; rw [hy145]; with_reducible exact H2_) | (have H2_ := (Option.bind_some _ _).symm.trans H; with_reducible exact H2_) | with_reducible exact H | (rw [hy145]; exact H) | exact H
                  have Ny145 := Aside0.mk hy145
                  clear hy145
                  obtain ⟨y148, hy148⟩ : ∃ y_ : List Int, y_ = (([Int.tmod (wrap64 (a2)) (ji22)] : List Int)) := ⟨_, rfl⟩
                  replace H : (rematchlaw07_GridSteps.l0 kj8 a3 (wrap64 (4 + (Int.tmod (wrap64 (a0)) 9))) (wrap64 (4 + (Int.tmod (wrap64 (a1)) 9))) (Int.tmod (wrap64 (a2)) (ji22)) y145 y148 t139 t140 t141) = some r := by first | (rw [hy148]; with_reducible exact H) | (have H2_ := (Option.bind_some _ _).symm.trans H; rw [hy148]; with_reducible exact H2_) | (have H2_ := (Option.bind_some _ _).symm.trans H; with_reducible exact H2_) | with_reducible exact H | (rw [hy148]; exact H) | exact H
                  have Ny148 := Aside0.mk hy148
                  clear hy148
                  have H' := Aside0.mk H
                  clear H
                  go_wp2_with (first | ((with_reducible refine gate_dst (N := 60) rfl ?_); refine Kd.R_make (Kd.int .i64) _ 3 rfl (N := 60) rfl 83 _ _ rfl ji22 rfl rfl Try.underlying83 (.int .i64 0) 8 info3 rfl (by decide) (by omega) 0 (ok := fun _ => True) (okp := fun _ => True) rfl (fun _ hk => hk) trivial (of_decide_eq_true (by first | (with_reducible assumption) | assumption)) (Nat.le_trans (Nat.mul_le_mul_right _ (of_decide_eq_true (by first | (with_reducible assumption) | assumption) : ji22.toNat ≤ 35184372088832)) (by omega)) (Below.refl _ _) (Nat.le_refl _) ?_; intro v146 w25 ho26 hb hg_ hnew_; clear hg_ hnew_; (first | rw [← Ny145.out] at ho26 | (simp only [Int.reduceToNat] at ho26; rw [← Ny145.out] at ho26)); have n0_ := Aside0.mk (Kd.R_lower ho26 (below_size (by repeat (first | (with_reducible first | exact HB.out | apply below_alloc | apply pw_below_drewN | apply below_drew1 | refine below_set ?_ GE143.out) | exact HB.out)))); have n1_ := Aside0.mk (blk_below (g := gb143) (o := .cells #[.int .i64 t139, .int .i64 t140, .string t141] 77 (0, 0)) (by (with_reducible repeat (first | refine blk_drewN ?_ _ | refine blk_drew ?_ | refine blk_alloc ?_ _)); exact BK143.out) hb); have n2_ := Aside0.mk (below_step (by repeat (first | (with_reducible first | exact HB.out | apply below_alloc | apply pw_below_drewN | apply below_drew1 | refine below_set ?_ GE143.out) | exact HB.out)) hb); clear BK143; clear HB; have HO147 := n0_; have BK143 := n1_; have HB := n2_; clear n0_ n1_ n2_; clear hb ho26) | ((with_reducible refine gate_dst (N := 62) rfl ?_); refine Kd.R_lit (Kd.int .i64) _ 3 ?hg (N := 62) ?hd (xs := ([Int.tmod (wrap64 (a2)) (ji22)] : List Int)) (inner := [.int .i64 (Int.tmod (wrap64 (a2)) (ji22))]) (ok := fun _ => True) (okp := fun _ => True) ?hr ?hp (fun _ hk => hk) trivial (Below.refl _ _) (Nat.le_refl _) (by simp) ?_; (case hd => rfl); (case hg => rfl); (case hr => first | (go_simp; done) | (go_simp; rfl)); (case hp => exact (Reps.one (show Kd.M (Kd.int .i64) _ _ _ (Int.tmod (wrap64 (a2)) (ji22)) [.int .i64 (Int.tmod (wrap64 (a2)) (ji22))] from rfl) (Reps.none _ _))); intro v149 w27 ho28 hb hg_ hnew_; clear hg_ hnew_; (first | rw [← Ny148.out] at ho28 | (simp only [Int.reduceToNat] at ho28; rw [← Ny148.out] at ho28)); have n0_ := Aside0.mk (Kd.R_elder' (by (with_reducible repeat (first | apply Kd.R_alloc | apply Kd.R_drewN | apply Kd.R_drew)); exact HO147.out) (Kd.R_base ho28) hb); have n1_ := Aside0.mk (Kd.R_lower (Kd.R_new' ho28 (Kd.R_lt (by (with_reducible repeat (first | apply Kd.R_alloc | apply Kd.R_drewN | apply Kd.R_drew)); exact HO147.out))) (below_size (by repeat (first | (with_reducible first | exact HB.out | apply below_alloc | apply pw_below_drewN | apply below_drew1 | refine below_set ?_ GE143.out) | exact HB.out)))); have n2_ := Aside0.mk (blk_below (g := gb143) (o := .cells #[.int .i64 t139, .int .i64 t140, .string t141] 77 (0, 0)) (by (with_reducible repeat (first | refine blk_drewN ?_ _ | refine blk_drew ?_ | refine blk_alloc ?_ _)); exact BK143.out) hb); have n3_ := Aside0.mk (below_step (by repeat (first | (with_reducible first | exact HB.out | apply below_alloc | apply pw_below_drewN | apply below_drew1 | refine below_set ?_ GE143.out) | exact HB.out)) hb); clear HO147; clear BK143; clear HB; have HO147 := n0_; have HO150 := n1_; have BK143 := n2_; have HB := n3_; clear n0_ n1_ n2_ n3_; clear hb ho28))
                  go_loopg [15] kj8 (fun kq v15 w' => ∃ (x14_2 : List Int) (x15_2 : List Int), Aside0 (rematchlaw07_GridSteps.l0 kq a3 (wrap64 (4 + (Int.tmod (wrap64 (a0)) 9))) (wrap64 (4 + (Int.tmod (wrap64 (a1)) 9))) (Int.tmod (wrap64 (a2)) (ji22)) x14_2 x15_2 t139 t140 t141 = some r) ∧ Aside0 (kq ≤ kj8) ∧ Aside0 (Kd.R (Kd.int .i64) 3 w' w.heap.size (fun k_ => some k_ ≠ (v15 : Value).ownBlock) v146 x14_2) ∧ Aside0 (Kd.Q (Kd.int .i64) 3 w' w.heap.size (fun k_ => some k_ ≠ (v146 : Value).ownBlock) v15 x15_2) ∧ Aside0 (w'.heap[gb143]? = some (.cells #[.int .i64 t139, .int .i64 t140, .string t141] 77 (0, 0))) ∧ Aside0 (Below w.heap.size w w'))
                  case atStart => exact ⟨(y145), (y148), H', ⟨Nat.le_refl _⟩, ⟨by (with_reducible repeat (first | apply Kd.R_alloc | apply Kd.R_drewN | apply Kd.R_drew)); exact Kd.R_mono HO147.out (fun _ hk => hk.2)⟩, ⟨Kd.Q_of_R (by (with_reducible repeat (first | apply Kd.R_alloc | apply Kd.R_drewN | apply Kd.R_drew)); exact Kd.R_mono HO150.out (fun _ hk => hk.2))⟩, ⟨by (with_reducible repeat (first | refine blk_drewN ?_ _ | refine blk_drew ?_ | refine blk_alloc ?_ _)); exact BK143.out⟩, ⟨by repeat (first | (with_reducible first | exact HB.out | apply below_alloc | apply pw_below_drewN | apply below_drew1 | refine below_set ?_ GE143.out) | exact HB.out)⟩⟩
                  case round =>
                    clear H'
                    try clear c1
                    try clear hcv1
                    try clear c2
                    try clear p2
                    try clear c3
                    try clear c6
                    try clear c6b0
                    try clear c6b1
                    try clear p6
                    try clear c7
                    try clear c7b0
                    try clear c7b1
                    try clear c8
                    try clear hcv12
                    try clear c16
                    try clear c16b0
                    try clear c16b1
                    try clear c20
                    try clear c21
                    try clear c21b0
                    try clear c21b1
                    try clear c23
                    try clear c23b0
                    try clear c23b1
                    try clear c24
                    try clear c24b0
                    try clear c24b1
                    try clear hcz15_0
                    try clear hcz15_1
                    try clear hcz15_2
                    try clear hcz18_0
                    try clear hcz18_1
                    try clear hcz18_2
                    try clear hfz15_0
                    try clear hfz15_1
                    try clear hfz15_2
                    try clear hfz18_0
                    try clear hfz18_1
                    try clear hfz18_2
                    try clear p2
                    try clear p6
                    obtain ⟨x14_2, x15_2, HA, HK2, HO_14, HO_15, BK143, HB⟩ := hrel
                    cases gk with
                    | zero => exact absurd HA.out (by simp [rematchlaw07_GridSteps.l0])
                    | succ k2 =>
                      have H := HA.out
                      clear HA
                      simp only [rematchlaw07_GridSteps.l0] at H
                      by_cases c29 : (x15_2.length : Int) > 0
                      · rw [if_pos c29] at H
                        have c29b0 : decide (0 < (x15_2.length : Int)) = true := decide_eq_true c29
                        have c29b1 : decide (0 < x15_2.length) = true := decide_eq_true (by omega)
                        clear c29
                        by_cases c30 : 0 < (x15_2.length : Int)
                        · rw [if_pos c30] at H
                          have c30b0 : decide (0 < (x15_2.length : Int)) = true := decide_eq_true c30
                          have c30b1 : decide (0 < x15_2.length) = true := decide_eq_true (by omega)
                          clear c30
                          by_cases c31 : 1 ≤ (x15_2.length : Int)
                          · rw [if_pos c31] at H
                            have c31b0 := eq_true c31
                            have c31b1 : decide (1 ≤ (x15_2.length : Int)) = true := decide_eq_true c31
                            clear c31
                            obtain ⟨y152, hy152⟩ : ∃ y_ : List Int, y_ = (x15_2.drop (1 : Int).toNat) := ⟨_, rfl⟩
                            replace H : ((grid_Map_Next.f t139 t140 t141 (rd x15_2 0)).bind fun t155 => (rematchlaw07_GridSteps.l1 k2 a3 (wrap64 (4 + (Int.tmod (wrap64 (a0)) 9))) (wrap64 (4 + (Int.tmod (wrap64 (a1)) 9))) (Int.tmod (wrap64 (a2)) (ji22)) x14_2 y152 (rd x15_2 0) t155 0 t139 t140 t141)) = some r := by first | (rw [hy152]; with_reducible exact H) | (have H2_ := (Option.bind_some _ _).symm.trans H; rw [hy152]; with_reducible exact H2_) | (have H2_ := (Option.bind_some _ _).symm.trans H; with_reducible exact H2_) | with_reducible exact H | (rw [hy152]; exact H) | exact H
                            have Ny152 := Aside0.mk hy152
                            clear hy152
                            replace H := Option.bind_eq_some_iff.mp H
                            obtain ⟨t155, A320, H⟩ := H
                            replace H : (rematchlaw07_GridSteps.l1 k2 a3 (wrap64 (4 + (Int.tmod (wrap64 (a0)) 9))) (wrap64 (4 + (Int.tmod (wrap64 (a1)) 9))) (Int.tmod (wrap64 (a2)) (ji22)) x14_2 y152 (rd x15_2 0) t155 0 t139 t140 t141) = some r := H
                            have A32 := Aside0.mk A320
                            clear A320
                            have H' := Aside0.mk H
                            clear H
                            obtain ⟨Ao33, co33, eo33, _⟩ := Kd.Q_slice HO_15.out
                            subst eo33
                            have p151 : 0 ≤ (0 : Int) := (by omega)
                            have q151 : 0 < (x15_2.length : Int) := of_decide_eq_true (by first | (with_reducible assumption) | assumption)
                            obtain ⟨ad151, e151, hx151_0⟩ := Kd.at_int (Kd.Q_reads' HO_15.out).2.2 0 p151 q151
                            cases e151
                            have qi151 : (0 < x15_2.length) = True := eq_true (by omega)
                            (try rw [show ((0 : Int)).toNat = 0 from rfl] at hx151_0)
                            (try rw [Addr.add_zero'] at hx151_0)
                            replace p151 := eq_true p151
                            replace q151 := eq_true q151
                            have q34 : (1 : Int) ≤ ((x15_2.length : Int) : Int) := of_decide_eq_true (by first | (with_reducible assumption) | assumption)
                            obtain ⟨i034, hi034, _, hsz34, _⟩ := info_parts info3
                            have hcut34 := cut_from (P := Try.prog) 83 3 .i64 Try.underlying83 hi034 1 hsz34 (some ad151) x15_2.length co33 1 (by omega) q34
                            have hr34 := Kd.Q_drop (k := (1 : Int).toNat) HO_15.out (by omega)
                            obtain ⟨A34, hA34⟩ : ∃ A1, A1 = (if co33 = (1 : Int).toNat then (some ad151) else ((some ad151) : Option Addr).map (·.add ((1 : Int).toNat * 1))) := ⟨_, rfl⟩
                            obtain ⟨c34, hc34⟩ : ∃ c1, c1 = co33 - (1 : Int).toNat := ⟨_, rfl⟩
                            have hy34 : y152.length = x15_2.length - (1 : Int).toNat := (by rw [Ny152.out, List.length_drop])
                            rw [← Ny152.out] at hr34
                            rw [← hy34, ← hA34, ← hc34] at hcut34
                            replace hr34 : Kd.Q (Kd.int .i64) 3 wr w.heap.size (fun k_ => some k_ ≠ (v146 : Value).ownBlock) (.slice A34 y152.length c34) y152 := (by rw [hA34, hc34, hy34]; exact hr34)
                            have HE34 : Aside0 ((Value.slice A34 y152.length c34).ownBlock = (.slice (some ad151) x15_2.length co33 : Value).ownBlock) := ⟨by rw [hA34]; split <;> (cases ((some ad151) : Option Addr) <;> rfl)⟩
                            clear hy34 hi034 hsz34 HO_15 hA34 hc34
                            have HO154 := Aside0.mk hr34
                            clear hr34
                            replace q34 := eq_true q34
                            have n_ := Aside0.mk (Kd.R_mono (ok' := fun k_ => some k_ ≠ (.slice A34 y152.length c34 : Value).ownBlock) HO_14.out (fun k_ hk => (by rw [HE34.out]; exact hk)))
                            clear HO_14
                            have HO_14 := n_
                            clear n_
                            have hcz35_0 : wr.cell? ⟨gb143, 0, none⟩ = some (.int .i64 t139) := (blk_cell BK143.out 0).trans rfl
                            have hcz35_1 : wr.cell? ⟨gb143, 1, none⟩ = some (.int .i64 t140) := (blk_cell BK143.out 1).trans rfl
                            have hcz35_2 : wr.cell? ⟨gb143, 2, none⟩ = some (.string t141) := (blk_cell BK143.out 2).trans rfl
                            have hfz35_0 := blk_frozen BK143.out 0
                            have hfz35_1 := blk_frozen BK143.out 1
                            have hfz35_2 := blk_frozen BK143.out 2
                            go_wp2_with (first | ((with_reducible refine gate_callee (f := 34) rfl ?_); refine goesL_ (some 73) rfl rfl Try.func34 (by kernel_rfl) rfl #[.agg #[.int .i64 t139, .int .i64 t140, .string t141], .int .i64 (rd x15_2 0)] rfl (by (try simp only [List.map_toArray, List.map_cons, List.map_nil]); first | done | rfl | (simp only [List.length_drop, List.length_take]; rfl)) ?_; (with_reducible refine (grid_Map_Next.calls t139 t140 t141 (rd x15_2 0) t155 _ A32.out).mono ?_); rintro e w36 ⟨v156, rfl, ho0, hb⟩; refine ⟨_, rfl, ?_⟩; have n0_ := Aside0.mk (Kd.R_elder' (by (with_reducible repeat (first | apply Kd.R_alloc | apply Kd.R_drewN | apply Kd.R_drew)); exact HO_14.out) (Kd.R_base ho0) hb); have n1_ := Aside0.mk (Kd.Q_elder' (by (with_reducible repeat (first | apply Kd.Q_alloc | apply Kd.Q_drewN | apply Kd.Q_drew)); exact HO154.out) (Kd.R_base ho0) hb); have n2_ := Aside0.mk (Kd.R_lower (Kd.R_new' (Kd.R_new' ho0 (Kd.R_lt (by (with_reducible repeat (first | apply Kd.R_alloc | apply Kd.R_drewN | apply Kd.R_drew)); exact HO_14.out))) (Kd.Q_lt (by (with_reducible repeat (first | apply Kd.Q_alloc | apply Kd.Q_drewN | apply Kd.Q_drew)); exact HO154.out))) (below_size (by repeat (first | (with_reducible first | exact HB.out | apply below_alloc | apply pw_below_drewN | apply below_drew1 | refine below_set ?_ GE143.out) | exact HB.out)))); have n3_ := Aside0.mk (blk_below (g := gb143) (o := .cells #[.int .i64 t139, .int .i64 t140, .string t141] 77 (0, 0)) (by (with_reducible repeat (first | refine blk_drewN ?_ _ | refine blk_drew ?_ | refine blk_alloc ?_ _)); exact BK143.out) hb); have n4_ := Aside0.mk (below_step (by repeat (first | (with_reducible first | exact HB.out | apply below_alloc | apply pw_below_drewN | apply below_drew1 | refine below_set ?_ GE143.out) | exact HB.out)) hb); clear HO_14; clear HO154; clear BK143; clear HB; have HO_14 := n0_; have HO154 := n1_; have HO157 := n2_; have BK143 := n3_; have HB := n4_; clear n0_ n1_ n2_ n3_ n4_; (try clear hb); (try clear hb2); (try clear hk); (try clear hi); (try clear ho0)))
                            go_loopg [15, 18] k2 (fun kq v15 v18 w' => ∃ (x14_3 : List Int) (x15_3 : List Int) (x18_3 : Int), v18 = .int .i64 x18_3 ∧ Aside0 (rematchlaw07_GridSteps.l1 kq a3 (wrap64 (4 + (Int.tmod (wrap64 (a0)) 9))) (wrap64 (4 + (Int.tmod (wrap64 (a1)) 9))) (Int.tmod (wrap64 (a2)) (ji22)) x14_3 x15_3 (rd x15_2 0) t155 x18_3 t139 t140 t141 = some r) ∧ Aside0 (kq ≤ k2) ∧ Aside0 (Kd.R (Kd.int .i64) 3 w' w.heap.size (fun k_ => some k_ ≠ (v15 : Value).ownBlock ∧ some k_ ≠ (v156 : Value).ownBlock) v146 x14_3) ∧ Aside0 (Kd.Q (Kd.int .i64) 3 w' w.heap.size (fun k_ => some k_ ≠ (v146 : Value).ownBlock ∧ some k_ ≠ (v156 : Value).ownBlock) v15 x15_3) ∧ Aside0 (Kd.R (Kd.int .i64) 3 w' w.heap.size (fun k_ => some k_ ≠ (v146 : Value).ownBlock ∧ some k_ ≠ (v15 : Value).ownBlock) v156 t155) ∧ Aside0 (w'.heap[gb143]? = some (.cells #[.int .i64 t139, .int .i64 t140, .string t141] 77 (0, 0))) ∧ Aside0 (Below w.heap.size w w'))
                            case atStart => exact ⟨(x14_2), (y152), (0), (by first | rfl | (simp; done) | (simp [*]; done)), H', ⟨Nat.le_refl _⟩, ⟨by (with_reducible repeat (first | apply Kd.R_alloc | apply Kd.R_drewN | apply Kd.R_drew)); exact HO_14.out⟩, ⟨by (with_reducible repeat (first | apply Kd.Q_alloc | apply Kd.Q_drewN | apply Kd.Q_drew)); exact HO154.out⟩, ⟨by (with_reducible repeat (first | apply Kd.R_alloc | apply Kd.R_drewN | apply Kd.R_drew)); exact Kd.R_mono HO157.out (fun _ hk => ⟨hk.1.2, hk.2⟩)⟩, ⟨by (with_reducible repeat (first | refine blk_drewN ?_ _ | refine blk_drew ?_ | refine blk_alloc ?_ _)); exact BK143.out⟩, ⟨by repeat (first | (with_reducible first | exact HB.out | apply below_alloc | apply pw_below_drewN | apply below_drew1 | refine below_set ?_ GE143.out) | exact HB.out)⟩⟩
                            case round =>
                              clear H'
                              try clear c1
                              try clear p1
                              try clear q1
                              try clear hx1
                              try clear hcv1
                              try clear qi1
                              try clear c2
                              try clear p2
                              try clear c3
                              try clear q3
                              try clear c6
                              try clear c6b0
                              try clear c6b1
                              try clear p6
                              try clear c7
                              try clear c7b0
                              try clear c7b1
                              try clear c8
                              try clear hcv12
                              try clear p15
                              try clear q15
                              try clear hx15
                              try clear qi15
                              try clear c16
                              try clear c16b0
                              try clear c16b1
                              try clear c20
                              try clear c21
                              try clear c21b0
                              try clear c21b1
                              try clear c23
                              try clear c23b0
                              try clear c23b1
                              try clear c24
                              try clear c24b0
                              try clear c24b1
                              try clear c29
                              try clear c29b0
                              try clear c29b1
                              try clear c30
                              try clear c30b0
                              try clear c30b1
                              try clear c31
                              try clear c31b0
                              try clear c31b1
                              try clear c32
                              try clear c34
                              try clear q34
                              try clear hcz15_0
                              try clear hcz15_1
                              try clear hcz15_2
                              try clear hcz18_0
                              try clear hcz18_1
                              try clear hcz18_2
                              try clear hcz35_0
                              try clear hcz35_1
                              try clear hcz35_2
                              try clear hfz15_0
                              try clear hfz15_1
                              try clear hfz15_2
                              try clear hfz18_0
                              try clear hfz18_1
                              try clear hfz18_2
                              try clear hfz35_0
                              try clear hfz35_1
                              try clear hfz35_2
                              try clear hx151_0
                              try clear p151
                              try clear p2
                              try clear p6
                              try clear q151
                              try clear q34
                              obtain ⟨x14_3, x15_3, x18_3, rfl, HA, HK3, HO_14, HO_15, HO_17, BK143, HB⟩ := hrel
                              cases gk with
                              | zero => exact absurd HA.out (by simp [rematchlaw07_GridSteps.l1])
                              | succ k3 =>
                                have H := HA.out
                                clear HA
                                simp only [rematchlaw07_GridSteps.l1] at H
                                by_cases c37 : x18_3 < (t155.length : Int)
                                · rw [if_pos c37] at H
                                  have c37b0 : decide (x18_3 < (t155.length : Int)) = true := decide_eq_true c37
                                  clear c37
                                  by_cases c38 : 0 ≤ x18_3
                                  · rw [if_pos c38] at H
                                    have c38b0 : decide (0 ≤ x18_3) = true := decide_eq_true c38
                                    clear c38
                                    replace H := Option.bind_eq_some_iff.mp H
                                    obtain ⟨t159, A390, H⟩ := H
                                    replace H : (if t159 = true then (if (rd t155 x18_3) = (Int.tmod (wrap64 (a2)) (ji22)) then (rematchlaw07_GridSteps.l1 k3 a3 (wrap64 (4 + (Int.tmod (wrap64 (a0)) 9))) (wrap64 (4 + (Int.tmod (wrap64 (a1)) 9))) (Int.tmod (wrap64 (a2)) (ji22)) x14_3 x15_3 (rd x15_2 0) t155 (wrap64 (x18_3 + 1)) t139 t140 t141) else (if 0 ≤ (rd t155 x18_3) then (if (rd t155 x18_3) < (x14_3.length : Int) then (if (rd x14_3 (rd t155 x18_3)) = 0 then (if 0 ≤ (rd x15_2 0) then (if (rd x15_2 0) < (x14_3.length : Int) then (if x15_3.length < 17592186044416 then (rematchlaw07_GridSteps.l1 k3 a3 (wrap64 (4 + (Int.tmod (wrap64 (a0)) 9))) (wrap64 (4 + (Int.tmod (wrap64 (a1)) 9))) (Int.tmod (wrap64 (a2)) (ji22)) (x14_3.set ((rd t155 x18_3) : Int).toNat (wrap64 ((rd x14_3 (rd x15_2 0)) + 1))) (x15_3 ++ [rd t155 x18_3]) (rd x15_2 0) t155 (wrap64 (x18_3 + 1)) t139 t140 t141) else (none)) else (none)) else (none)) else (rematchlaw07_GridSteps.l1 k3 a3 (wrap64 (4 + (Int.tmod (wrap64 (a0)) 9))) (wrap64 (4 + (Int.tmod (wrap64 (a1)) 9))) (Int.tmod (wrap64 (a2)) (ji22)) x14_3 x15_3 (rd x15_2 0) t155 (wrap64 (x18_3 + 1)) t139 t140 t141)) else (none)) else (none))) else (none)) = some r := H
                                    have A39 := Aside0.mk A390
                                    clear A390
                                    by_cases c40 : t159 = true
                                    · subst c40
                                      have H1 : (if (rd t155 x18_3) = (Int.tmod (wrap64 (a2)) (ji22)) then (rematchlaw07_GridSteps.l1 k3 a3 (wrap64 (4 + (Int.tmod (wrap64 (a0)) 9))) (wrap64 (4 + (Int.tmod (wrap64 (a1)) 9))) (Int.tmod (wrap64 (a2)) (ji22)) x14_3 x15_3 (rd x15_2 0) t155 (wrap64 (x18_3 + 1)) t139 t140 t141) else (if 0 ≤ (rd t155 x18_3) then (if (rd t155 x18_3) < (x14_3.length : Int) then (if (rd x14_3 (rd t155 x18_3)) = 0 then (if 0 ≤ (rd x15_2 0) then (if (rd x15_2 0) < (x14_3.length : Int) then (if x15_3.length < 17592186044416 then (rematchlaw07_GridSteps.l1 k3 a3 (wrap64 (4 + (Int.tmod (wrap64 (a0)) 9))) (wrap64 (4 + (Int.tmod (wrap64 (a1)) 9))) (Int.tmod (wrap64 (a2)) (ji22)) (x14_3.set ((rd t155 x18_3) : Int).toNat (wrap64 ((rd x14_3 (rd x15_2 0)) + 1))) (x15_3 ++ [rd t155 x18_3]) (rd x15_2 0) t155 (wrap64 (x18_3 + 1)) t139 t140 t141) else (none)) else (none)) else (none)) else (rematchlaw07_GridSteps.l1 k3 a3 (wrap64 (4 + (Int.tmod (wrap64 (a0)) 9))) (wrap64 (4 + (Int.tmod (wrap64 (a1)) 9))) (Int.tmod (wrap64 (a2)) (ji22)) x14_3 x15_3 (rd x15_2 0) t155 (wrap64 (x18_3 + 1)) t139 t140 t141)) else (none)) else (none))) = some r := by rw [if_pos rfl] at H; exact H
                                      clear H
                                      have H := H1
                                      clear H1
                                      by_cases c41 : (rd t155 x18_3) = (Int.tmod (wrap64 (a2)) (ji22))
                                      · rw [if_pos c41] at H
                                        have c41b0 : ((rd t155 x18_3) == (Int.tmod (wrap64 (a2)) (ji22))) = true := beq_iff_eq.mpr c41
                                        have c41b1 : ((rd t155 x18_3) != (Int.tmod (wrap64 (a2)) (ji22))) = false := bne_eq_false_iff_eq.mpr c41
                                        clear c41
                                        have H' := Aside0.mk H
                                        clear H
                                        obtain ⟨Ao42, co42, eo42⟩ := Kd.R_slice HO_17.out
                                        subst eo42
                                        try go_wp2
                                        have n0_ := Aside0.mk (Kd.R_drew HO_14.out)
                                        have n1_ := Aside0.mk (Kd.Q_drew HO_15.out)
                                        have n2_ := Aside0.mk (Kd.R_drew HO_17.out)
                                        have n3_ := Aside0.mk (blk_drew BK143.out)
                                        have n4_ := Aside0.mk (below_drew1 HB.out)
                                        clear HO_14
                                        clear HO_15
                                        clear HO_17
                                        clear BK143
                                        clear HB
                                        have HO_14 := n0_
                                        have HO_15 := n1_
                                        have HO_17 := n2_
                                        have BK143 := n3_
                                        have HB := n4_
                                        clear n0_ n1_ n2_ n3_ n4_
                                        have p158 : 0 ≤ (x18_3 : Int) := of_decide_eq_true (by first | (with_reducible assumption) | assumption)
                                        have q158 : x18_3 < (t155.length : Int) := of_decide_eq_true (by first | (with_reducible assumption) | assumption)
                                        obtain ⟨ad158, e158, hx158_0⟩ := Kd.at_int (Kd.R_reads' HO_17.out).2.2 x18_3 p158 q158
                                        cases e158
                                        replace p158 := eq_true p158
                                        replace q158 := eq_true q158
                                        refine start_ (n := 7) (S := fun w' => w'.cell? ⟨gb143, 0, none⟩ = some (.int .i64 t139) ∧ w'.cell? ⟨gb143, 1, none⟩ = some (.int .i64 t140) ∧ w'.cell? ⟨gb143, 2, none⟩ = some (.string t141) ∧ w'.cell? (ad158.add (x18_3).toNat) = some (.int .i64 (rd t155 x18_3))) (ds := []) #[false, false, false, false, false, false, false] (by kernel_rfl) rfl rfl ⟨(blk_cell BK143.out 0).trans rfl, (blk_cell BK143.out 1).trans rfl, (blk_cell BK143.out 2).trans rfl, hx158_0⟩ (fun hHeld => ?_)
                                        generalize wr.drew = w43 at HO_14 HO_15 HO_17 BK143 HB hx158_0 hHeld ⊢
                                        refine pure_ (i := 1) (N := some 81) (v := ?_) (a' := ?_) #[false, true, false, false, false, false, false] rfl rfl (by kernel_rfl) (fun _ _ _ h => h) (Or.inl ⟨by rfl, ?_⟩) ?_ ?_
                                        rotate_left
                                        · intro w'
                                          go_simp
                                          with_reducible rfl
                                        rotate_left
                                        · simp only [Act.put, List.setIfInBounds_toArray, List.set_cons_zero, List.set_cons_succ, i64_w, i32_w]
                                          rfl
                                        refine pure_ (i := 2) (N := some 82) (v := ?_) (a' := ?_) #[false, true, true, false, false, false, false] rfl rfl (by kernel_rfl) (fun _ _ _ h => h) (Or.inl ⟨by rfl, ?_⟩) ?_ ?_
                                        rotate_left
                                        · intro w'
                                          go_simp
                                          with_reducible rfl
                                        rotate_left
                                        · simp only [Act.put, List.setIfInBounds_toArray, List.set_cons_zero, List.set_cons_succ, i64_w, i32_w]
                                          rfl
                                        refine pure_ (i := 3) (N := some 83) (v := ?_) (a' := ?_) #[false, true, true, true, false, false, false] rfl rfl (by kernel_rfl) (fun _ _ _ h => h) (Or.inl ⟨by rfl, ?_⟩) ?_ ?_
                                        rotate_left
                                        · intro w'
                                          go_simp
                                          with_reducible rfl
                                        rotate_left
                                        · simp only [Act.put, List.setIfInBounds_toArray, List.set_cons_zero, List.set_cons_succ, i64_w, i32_w]
                                          rfl
                                        refine take_ (i := 0) (N := some 80) (v := ?_) (a' := ?_) #[true, true, true, true, false, false, false] rfl rfl (by kernel_rfl) (fun _ _ _ h => h) (Or.inl ⟨by rfl, ?_⟩) hHeld ?_ ?_
                                        rotate_left
                                        · rintro w' ⟨s0, s1, s2, s3⟩
                                          go_simp
                                          with_reducible rfl
                                        rotate_left
                                        · simp only [Act.put, List.setIfInBounds_toArray, List.set_cons_zero, List.set_cons_succ, i64_w, i32_w]
                                          rfl
                                        refine take_ (i := 4) (N := some 84) (v := ?_) (a' := ?_) #[true, true, true, true, true, false, false] rfl rfl (by kernel_rfl) (fun _ _ _ h => h) (Or.inl ⟨by rfl, ?_⟩) hHeld ?_ ?_
                                        rotate_left
                                        · rintro w' ⟨s0, s1, s2, s3⟩
                                          go_simp
                                          with_reducible rfl
                                        rotate_left
                                        · simp only [Act.put, List.setIfInBounds_toArray, List.set_cons_zero, List.set_cons_succ, i64_w, i32_w]
                                          rfl
                                        refine one_ (i := 5) (N := some 85) #[true, true, true, true, true, true, false] rfl rfl (by kernel_rfl) (by decide) (fun K hK => ?_)
                                        refine goes_ Try.func35 (by kernel_rfl) rfl #[.agg #[.int .i64 t139, .int .i64 t140, .string t141], .int .i64 (rd t155 x18_3)] (by rfl) rfl rfl (by (try simp only [List.map_toArray, List.map_cons, List.map_nil]); first | done | rfl | (simp only [List.length_drop, List.length_take]; rfl)) ?_
                                        with_reducible refine (grid_Map_On.calls t139 t140 t141 (rd t155 x18_3) true _ A39.out).mono ?_
                                        rintro e w44 ⟨rfl, hb⟩
                                        have HS3_ := (hb.cell (World.block_lt_of_cell? _ _ (hHeld.2.2.2))).trans (hHeld.2.2.2)
                                        refine ⟨_, rfl, ?_⟩
                                        have n0_ := Aside0.mk (Kd.R_below (by (with_reducible repeat (first | apply Kd.R_alloc | apply Kd.R_drewN | apply Kd.R_drew)); exact HO_14.out) hb)
                                        have n1_ := Aside0.mk (Kd.Q_below (by (with_reducible repeat (first | apply Kd.Q_alloc | apply Kd.Q_drewN | apply Kd.Q_drew)); exact HO_15.out) hb)
                                        have n2_ := Aside0.mk (Kd.R_below (by (with_reducible repeat (first | apply Kd.R_alloc | apply Kd.R_drewN | apply Kd.R_drew)); exact HO_17.out) hb)
                                        have n3_ := Aside0.mk (blk_below (g := gb143) (o := .cells #[.int .i64 t139, .int .i64 t140, .string t141] 77 (0, 0)) (by (with_reducible repeat (first | refine blk_drewN ?_ _ | refine blk_drew ?_ | refine blk_alloc ?_ _)); exact BK143.out) hb)
                                        have n4_ := Aside0.mk (below_step (by repeat (first | (with_reducible first | exact HB.out | apply below_alloc | apply pw_below_drewN | apply below_drew1 | refine below_set ?_ GE143.out) | exact HB.out)) hb)
                                        clear HO_14
                                        clear HO_15
                                        clear HO_17
                                        clear BK143
                                        clear HB
                                        have HO_14 := n0_
                                        have HO_15 := n1_
                                        have HO_17 := n2_
                                        have BK143 := n3_
                                        have HB := n4_
                                        clear n0_ n1_ n2_ n3_ n4_
                                        (try clear hb)
                                        (try clear hb2)
                                        (try clear hk)
                                        (try clear hi)
                                        refine hK.out _ _ ⟨(blk_cell BK143.out 0).trans rfl, (blk_cell BK143.out 1).trans rfl, (blk_cell BK143.out 2).trans rfl, HS3_⟩ (fun hHeld => ?_)
                                        clear hK K
                                        refine norm_ (a' := ?_) ?_ ?_
                                        rotate_left
                                        · show Act.put _ (some 85) _ = _
                                          simp only [Act.put, List.setIfInBounds_toArray, List.set_cons_zero, List.set_cons_succ, i64_w, i32_w]
                                          rfl
                                        refine pure_ (i := 6) (N := some 86) (v := ?_) (a' := ?_) #[true, true, true, true, true, true, true] rfl rfl (by kernel_rfl) (fun _ _ _ h => h) (Or.inl ⟨by rfl, ?_⟩) ?_ ?_
                                        rotate_left
                                        · intro w'
                                          go_simp
                                          with_reducible rfl
                                        rotate_left
                                        · simp only [Act.put, List.setIfInBounds_toArray, List.set_cons_zero, List.set_cons_succ, i64_w, i32_w]
                                          rfl
                                        refine done_ (by kernel_rfl) ?_
                                        have p160 : 0 ≤ (x18_3 : Int) := of_decide_eq_true (by first | (with_reducible assumption) | assumption)
                                        have q160 : x18_3 < (t155.length : Int) := of_decide_eq_true (by first | (with_reducible assumption) | assumption)
                                        obtain ⟨ad160, e160, hx160_0⟩ := Kd.at_int (Kd.R_reads' HO_17.out).2.2 x18_3 p160 q160
                                        obtain rfl : ad158 = ad160 := (by injection e160)
                                        replace p160 := eq_true p160
                                        replace q160 := eq_true q160
                                        try go_wp2
                                        go_roundg k3
                                        case measure => have := HJ8.out; have := HK2.out; have := HK3.out; omega
                                        case rel => exact ⟨(x14_3), (x15_3), (wrap64 (x18_3 + 1)), (by first | rfl | (simp; done) | (simp [*]; done)), H', ⟨by have := HJ8.out; have := HK2.out; have := HK3.out; omega⟩, ⟨by (with_reducible repeat (first | apply Kd.R_alloc | apply Kd.R_drewN | apply Kd.R_drew)); exact HO_14.out⟩, ⟨by (with_reducible repeat (first | apply Kd.Q_alloc | apply Kd.Q_drewN | apply Kd.Q_drew)); exact HO_15.out⟩, ⟨by (with_reducible repeat (first | apply Kd.R_alloc | apply Kd.R_drewN | apply Kd.R_drew)); exact HO_17.out⟩, ⟨by (with_reducible repeat (first | refine blk_drewN ?_ _ | refine blk_drew ?_ | refine blk_alloc ?_ _)); exact BK143.out⟩, ⟨by repeat (first | (with_reducible first | exact HB.out | apply below_alloc | apply pw_below_drewN | apply below_drew1 | refine below_set ?_ GE143.out) | exact HB.out)⟩⟩
                                      · rw [if_neg c41] at H
                                        have c41b0 : ((rd t155 x18_3) == (Int.tmod (wrap64 (a2)) (ji22))) = false := beq_eq_false_iff_ne.mpr c41
                                        have c41b1 : ((rd t155 x18_3) != (Int.tmod (wrap64 (a2)) (ji22))) = true := bne_iff_ne.mpr c41
                                        by_cases c45 : 0 ≤ (rd t155 x18_3)
                                        · rw [if_pos c45] at H
                                          have c45b0 : decide (0 ≤ (rd t155 x18_3)) = true := decide_eq_true c45
                                          clear c45
                                          by_cases c46 : (rd t155 x18_3) < (x14_3.length : Int)
                                          · rw [if_pos c46] at H
                                            have c46b0 : decide ((rd t155 x18_3) < (x14_3.length : Int)) = true := decide_eq_true c46
                                            clear c46
                                            by_cases c47 : (rd x14_3 (rd t155 x18_3)) = 0
                                            · rw [if_pos c47] at H
                                              have c47b0 : ((rd x14_3 (rd t155 x18_3)) == 0) = true := beq_iff_eq.mpr c47
                                              have c47b1 : ((rd x14_3 (rd t155 x18_3)) != 0) = false := bne_eq_false_iff_eq.mpr c47
                                              clear c47
                                              by_cases c48 : 0 ≤ (rd x15_2 0)
                                              · rw [if_pos c48] at H
                                                have c48b0 : decide (0 ≤ (rd x15_2 0)) = true := decide_eq_true c48
                                                clear c48
                                                by_cases c49 : (rd x15_2 0) < (x14_3.length : Int)
                                                · rw [if_pos c49] at H
                                                  have c49b0 : decide ((rd x15_2 0) < (x14_3.length : Int)) = true := decide_eq_true c49
                                                  clear c49
                                                  obtain ⟨y165, hy165⟩ : ∃ y_ : List Int, y_ = (x14_3.set ((rd t155 x18_3) : Int).toNat (wrap64 ((rd x14_3 (rd x15_2 0)) + 1))) := ⟨_, rfl⟩
                                                  replace H : (if x15_3.length < 17592186044416 then (rematchlaw07_GridSteps.l1 k3 a3 (wrap64 (4 + (Int.tmod (wrap64 (a0)) 9))) (wrap64 (4 + (Int.tmod (wrap64 (a1)) 9))) (Int.tmod (wrap64 (a2)) (ji22)) y165 (x15_3 ++ [rd t155 x18_3]) (rd x15_2 0) t155 (wrap64 (x18_3 + 1)) t139 t140 t141) else (none)) = some r := by first | (rw [hy165]; with_reducible exact H) | (have H2_ := (Option.bind_some _ _).symm.trans H; rw [hy165]; with_reducible exact H2_) | (have H2_ := (Option.bind_some _ _).symm.trans H; with_reducible exact H2_) | with_reducible exact H | (rw [hy165]; exact H) | exact H
                                                  have Ny165 := Aside0.mk hy165
                                                  clear hy165
                                                  by_cases c51 : x15_3.length < 17592186044416
                                                  · rw [if_pos c51] at H
                                                    have LMc51 := Aside0.mk c51
                                                    clear c51
                                                    obtain ⟨y167, hy167⟩ : ∃ y_ : List Int, y_ = (x15_3 ++ [rd t155 x18_3]) := ⟨_, rfl⟩
                                                    replace H : (rematchlaw07_GridSteps.l1 k3 a3 (wrap64 (4 + (Int.tmod (wrap64 (a0)) 9))) (wrap64 (4 + (Int.tmod (wrap64 (a1)) 9))) (Int.tmod (wrap64 (a2)) (ji22)) y165 y167 (rd x15_2 0) t155 (wrap64 (x18_3 + 1)) t139 t140 t141) = some r := by first | (rw [hy167]; with_reducible exact H) | (have H2_ := (Option.bind_some _ _).symm.trans H; rw [hy167]; with_reducible exact H2_) | (have H2_ := (Option.bind_some _ _).symm.trans H; with_reducible exact H2_) | with_reducible exact H | (rw [hy167]; exact H) | exact H
                                                    have Ny167 := Aside0.mk hy167
                                                    clear hy167
                                                    have H' := Aside0.mk H
                                                    clear H
                                                    obtain ⟨Ao52, co52, eo52⟩ := Kd.R_slice HO_17.out
                                                    subst eo52
                                                    try go_wp2
                                                    have n0_ := Aside0.mk (Kd.R_drew HO_14.out)
                                                    have n1_ := Aside0.mk (Kd.Q_drew HO_15.out)
                                                    have n2_ := Aside0.mk (Kd.R_drew HO_17.out)
                                                    have n3_ := Aside0.mk (blk_drew BK143.out)
                                                    have n4_ := Aside0.mk (below_drew1 HB.out)
                                                    clear HO_14
                                                    clear HO_15
                                                    clear HO_17
                                                    clear BK143
                                                    clear HB
                                                    have HO_14 := n0_
                                                    have HO_15 := n1_
                                                    have HO_17 := n2_
                                                    have BK143 := n3_
                                                    have HB := n4_
                                                    clear n0_ n1_ n2_ n3_ n4_
                                                    have p158 : 0 ≤ (x18_3 : Int) := of_decide_eq_true (by first | (with_reducible assumption) | assumption)
                                                    have q158 : x18_3 < (t155.length : Int) := of_decide_eq_true (by first | (with_reducible assumption) | assumption)
                                                    obtain ⟨ad158, e158, hx158_0⟩ := Kd.at_int (Kd.R_reads' HO_17.out).2.2 x18_3 p158 q158
                                                    cases e158
                                                    replace p158 := eq_true p158
                                                    replace q158 := eq_true q158
                                                    refine start_ (n := 7) (S := fun w' => w'.cell? ⟨gb143, 0, none⟩ = some (.int .i64 t139) ∧ w'.cell? ⟨gb143, 1, none⟩ = some (.int .i64 t140) ∧ w'.cell? ⟨gb143, 2, none⟩ = some (.string t141) ∧ w'.cell? (ad158.add (x18_3).toNat) = some (.int .i64 (rd t155 x18_3))) (ds := []) #[false, false, false, false, false, false, false] (by kernel_rfl) rfl rfl ⟨(blk_cell BK143.out 0).trans rfl, (blk_cell BK143.out 1).trans rfl, (blk_cell BK143.out 2).trans rfl, hx158_0⟩ (fun hHeld => ?_)
                                                    generalize wr.drew = w53 at HO_14 HO_15 HO_17 BK143 HB hx158_0 hHeld ⊢
                                                    refine pure_ (i := 1) (N := some 81) (v := ?_) (a' := ?_) #[false, true, false, false, false, false, false] rfl rfl (by kernel_rfl) (fun _ _ _ h => h) (Or.inl ⟨by rfl, ?_⟩) ?_ ?_
                                                    rotate_left
                                                    · intro w'
                                                      go_simp
                                                      with_reducible rfl
                                                    rotate_left
                                                    · simp only [Act.put, List.setIfInBounds_toArray, List.set_cons_zero, List.set_cons_succ, i64_w, i32_w]
                                                      rfl
                                                    refine pure_ (i := 2) (N := some 82) (v := ?_) (a' := ?_) #[false, true, true, false, false, false, false] rfl rfl (by kernel_rfl) (fun _ _ _ h => h) (Or.inl ⟨by rfl, ?_⟩) ?_ ?_
                                                    rotate_left
                                                    · intro w'
                                                      go_simp
                                                      with_reducible rfl
                                                    rotate_left
                                                    · simp only [Act.put, List.setIfInBounds_toArray, List.set_cons_zero, List.set_cons_succ, i64_w, i32_w]
                                                      rfl
                                                    refine pure_ (i := 3) (N := some 83) (v := ?_) (a' := ?_) #[false, true, true, true, false, false, false] rfl rfl (by kernel_rfl) (fun _ _ _ h => h) (Or.inl ⟨by rfl, ?_⟩) ?_ ?_
                                                    rotate_left
                                                    · intro w'
                                                      go_simp
                                                      with_reducible rfl
                                                    rotate_left
                                                    · simp only [Act.put, List.setIfInBounds_toArray, List.set_cons_zero, List.set_cons_succ, i64_w, i32_w]
                                                      rfl
                                                    refine take_ (i := 0) (N := some 80) (v := ?_) (a' := ?_) #[true, true, true, true, false, false, false] rfl rfl (by kernel_rfl) (fun _ _ _ h => h) (Or.inl ⟨by rfl, ?_⟩) hHeld ?_ ?_
                                                    rotate_left
                                                    · rintro w' ⟨s0, s1, s2, s3⟩
                                                      go_simp
                                                      with_reducible rfl
                                                    rotate_left
                                                    · simp only [Act.put, List.setIfInBounds_toArray, List.set_cons_zero, List.set_cons_succ, i64_w, i32_w]
                                                      rfl
                                                    refine take_ (i := 4) (N := some 84) (v := ?_) (a' := ?_) #[true, true, true, true, true, false, false] rfl rfl (by kernel_rfl) (fun _ _ _ h => h) (Or.inl ⟨by rfl, ?_⟩) hHeld ?_ ?_
                                                    rotate_left
                                                    · rintro w' ⟨s0, s1, s2, s3⟩
                                                      go_simp
                                                      with_reducible rfl
                                                    rotate_left
                                                    · simp only [Act.put, List.setIfInBounds_toArray, List.set_cons_zero, List.set_cons_succ, i64_w, i32_w]
                                                      rfl
                                                    refine one_ (i := 5) (N := some 85) #[true, true, true, true, true, true, false] rfl rfl (by kernel_rfl) (by decide) (fun K hK => ?_)
                                                    refine goes_ Try.func35 (by kernel_rfl) rfl #[.agg #[.int .i64 t139, .int .i64 t140, .string t141], .int .i64 (rd t155 x18_3)] (by rfl) rfl rfl (by (try simp only [List.map_toArray, List.map_cons, List.map_nil]); first | done | rfl | (simp only [List.length_drop, List.length_take]; rfl)) ?_
                                                    with_reducible refine (grid_Map_On.calls t139 t140 t141 (rd t155 x18_3) true _ A39.out).mono ?_
                                                    rintro e w54 ⟨rfl, hb⟩
                                                    have HS3_ := (hb.cell (World.block_lt_of_cell? _ _ (hHeld.2.2.2))).trans (hHeld.2.2.2)
                                                    refine ⟨_, rfl, ?_⟩
                                                    have n0_ := Aside0.mk (Kd.R_below (by (with_reducible repeat (first | apply Kd.R_alloc | apply Kd.R_drewN | apply Kd.R_drew)); exact HO_14.out) hb)
                                                    have n1_ := Aside0.mk (Kd.Q_below (by (with_reducible repeat (first | apply Kd.Q_alloc | apply Kd.Q_drewN | apply Kd.Q_drew)); exact HO_15.out) hb)
                                                    have n2_ := Aside0.mk (Kd.R_below (by (with_reducible repeat (first | apply Kd.R_alloc | apply Kd.R_drewN | apply Kd.R_drew)); exact HO_17.out) hb)
                                                    have n3_ := Aside0.mk (blk_below (g := gb143) (o := .cells #[.int .i64 t139, .int .i64 t140, .string t141] 77 (0, 0)) (by (with_reducible repeat (first | refine blk_drewN ?_ _ | refine blk_drew ?_ | refine blk_alloc ?_ _)); exact BK143.out) hb)
                                                    have n4_ := Aside0.mk (below_step (by repeat (first | (with_reducible first | exact HB.out | apply below_alloc | apply pw_below_drewN | apply below_drew1 | refine below_set ?_ GE143.out) | exact HB.out)) hb)
                                                    clear HO_14
                                                    clear HO_15
                                                    clear HO_17
                                                    clear BK143
                                                    clear HB
                                                    have HO_14 := n0_
                                                    have HO_15 := n1_
                                                    have HO_17 := n2_
                                                    have BK143 := n3_
                                                    have HB := n4_
                                                    clear n0_ n1_ n2_ n3_ n4_
                                                    (try clear hb)
                                                    (try clear hb2)
                                                    (try clear hk)
                                                    (try clear hi)
                                                    refine hK.out _ _ ⟨(blk_cell BK143.out 0).trans rfl, (blk_cell BK143.out 1).trans rfl, (blk_cell BK143.out 2).trans rfl, HS3_⟩ (fun hHeld => ?_)
                                                    clear hK K
                                                    refine norm_ (a' := ?_) ?_ ?_
                                                    rotate_left
                                                    · show Act.put _ (some 85) _ = _
                                                      simp only [Act.put, List.setIfInBounds_toArray, List.set_cons_zero, List.set_cons_succ, i64_w, i32_w]
                                                      rfl
                                                    refine pure_ (i := 6) (N := some 86) (v := ?_) (a' := ?_) #[true, true, true, true, true, true, true] rfl rfl (by kernel_rfl) (fun _ _ _ h => h) (Or.inl ⟨by rfl, ?_⟩) ?_ ?_
                                                    rotate_left
                                                    · intro w'
                                                      go_simp
                                                      with_reducible rfl
                                                    rotate_left
                                                    · simp only [Act.put, List.setIfInBounds_toArray, List.set_cons_zero, List.set_cons_succ, i64_w, i32_w]
                                                      rfl
                                                    refine done_ (by kernel_rfl) ?_
                                                    have p160 : 0 ≤ (x18_3 : Int) := of_decide_eq_true (by first | (with_reducible assumption) | assumption)
                                                    have q160 : x18_3 < (t155.length : Int) := of_decide_eq_true (by first | (with_reducible assumption) | assumption)
                                                    obtain ⟨ad160, e160, hx160_0⟩ := Kd.at_int (Kd.R_reads' HO_17.out).2.2 x18_3 p160 q160
                                                    obtain rfl : ad158 = ad160 := (by injection e160)
                                                    replace p160 := eq_true p160
                                                    replace q160 := eq_true q160
                                                    have p161 : 0 ≤ (x18_3 : Int) := of_decide_eq_true (by first | (with_reducible assumption) | assumption)
                                                    have q161 : x18_3 < (t155.length : Int) := of_decide_eq_true (by first | (with_reducible assumption) | assumption)
                                                    obtain ⟨ad161, e161, hx161_0⟩ := Kd.at_int (Kd.R_reads' HO_17.out).2.2 x18_3 p161 q161
                                                    obtain rfl : ad158 = ad161 := (by injection e161)
                                                    replace p161 := eq_true p161
                                                    replace q161 := eq_true q161
                                                    obtain ⟨Ao55, co55, eo55⟩ := Kd.R_slice HO_14.out
                                                    subst eo55
                                                    have p162 : 0 ≤ ((rd t155 x18_3) : Int) := of_decide_eq_true (by first | (with_reducible assumption) | assumption)
                                                    have q162 : (rd t155 x18_3) < (x14_3.length : Int) := of_decide_eq_true (by first | (with_reducible assumption) | assumption)
                                                    obtain ⟨ad162, e162, hx162_0⟩ := Kd.at_int (Kd.R_reads' HO_14.out).2.2 (rd t155 x18_3) p162 q162
                                                    cases e162
                                                    replace p162 := eq_true p162
                                                    replace q162 := eq_true q162
                                                    try go_wp2
                                                    have n0_ := Aside0.mk (Kd.R_drew HO_14.out)
                                                    have n1_ := Aside0.mk (Kd.Q_drew HO_15.out)
                                                    have n2_ := Aside0.mk (Kd.R_drew HO_17.out)
                                                    have n3_ := Aside0.mk (blk_drew BK143.out)
                                                    have n4_ := Aside0.mk (below_drew1 HB.out)
                                                    clear HO_14
                                                    clear HO_15
                                                    clear HO_17
                                                    clear BK143
                                                    clear HB
                                                    have HO_14 := n0_
                                                    have HO_15 := n1_
                                                    have HO_17 := n2_
                                                    have BK143 := n3_
                                                    have HB := n4_
                                                    clear n0_ n1_ n2_ n3_ n4_
                                                    have p163 : 0 ≤ (x18_3 : Int) := of_decide_eq_true (by first | (with_reducible assumption) | assumption)
                                                    have q163 : x18_3 < (t155.length : Int) := of_decide_eq_true (by first | (with_reducible assumption) | assumption)
                                                    obtain ⟨ad163, e163, hx163_0⟩ := Kd.at_int (Kd.R_reads' HO_17.out).2.2 x18_3 p163 q163
                                                    obtain rfl : ad158 = ad163 := (by injection e163)
                                                    replace p163 := eq_true p163
                                                    replace q163 := eq_true q163
                                                    have p164 : 0 ≤ ((rd x15_2 0) : Int) := of_decide_eq_true (by first | (with_reducible assumption) | assumption)
                                                    have q164 : (rd x15_2 0) < (x14_3.length : Int) := of_decide_eq_true (by first | (with_reducible assumption) | assumption)
                                                    obtain ⟨ad164, e164, hx164_0⟩ := Kd.at_int (Kd.R_reads' HO_14.out).2.2 (rd x15_2 0) p164 q164
                                                    obtain rfl : ad162 = ad164 := (by injection e164)
                                                    replace p164 := eq_true p164
                                                    replace q164 := eq_true q164
                                                    have p50 : 0 ≤ ((rd t155 x18_3) : Int) := of_decide_eq_true (by first | (with_reducible assumption) | assumption)
                                                    have q50 : ((rd t155 x18_3) : Int) < ((x14_3.length : Int) : Int) := of_decide_eq_true (by first | (with_reducible assumption) | assumption)
                                                    obtain ⟨go50, co50, eo50, gb50, gl50, cl50, HG50⟩ := Kd.R_form HO_14.out (by omega)
                                                    (first | cases eo50 | (injection eo50 with ea_ en_ ec_; (first | subst ea_ | (injection ea_ with ea_; subst ea_)); subst ec_; clear en_))
                                                    have GB50 := Aside0.mk gb50
                                                    have GG50 := Aside0.mk HG50
                                                    clear gb50 gl50 HG50
                                                    (first | simp only [add_plain] at hx162_0 | skip)
                                                    (first | simp only [add_plain] at hx164_0 | skip)
                                                    obtain ⟨hx50_0, hf50_0⟩ := Kd.R_celln 0 HO_14.out ((rd t155 x18_3) : Int) p50 q50
                                                    replace p50 := eq_true p50
                                                    replace q50 := eq_true q50
                                                    have HP57 := Kd.R_putn HO_14.out ((rd t155 x18_3) : Int) (wrap64 ((rd x14_3 (rd x15_2 0)) + 1))
                                                    rw [← Ny165.out] at HP57
                                                    have HQ57 := Aside0.mk HP57
                                                    clear HP57
                                                    refine start_ (n := 12) (S := fun w' => w'.cell? (ad158.add (x18_3).toNat) = some (.int .i64 (rd t155 x18_3)) ∧ w'.cell? ⟨go50, ((rd x15_2 0)).toNat, none⟩ = some (.int .i64 (rd x14_3 (rd x15_2 0)))) (ds := [11]) #[false, false, false, false, false, false, false, false, false, false, false, false] (by kernel_rfl) rfl rfl ⟨hx163_0, hx164_0⟩ (fun hHeld => ?_); refine with_tabW rematchlaw07_GridSteps.tab18 rematchlaw07_GridSteps.bits18 (fun HT_ HW_ => ?_)
                                                    generalize w54.drew = w56 at HO_14 HO_15 HO_17 BK143 HB GG50 HQ57 hf50_0 hx162_0 hx163_0 hx164_0 hx50_0 hHeld ⊢
                                                    refine pure_ (i := 0) (N := some 103) (v := ?_) (a' := ?_) #[true, false, false, false, false, false, false, false, false, false, false, false] rfl rfl (any_of HT_.out (by kernel_rfl)) (fun _ _ _ h => h) (Or.inl ⟨by rfl, ?_⟩) ?_ ?_
                                                    rotate_left
                                                    · intro w'
                                                      go_simp
                                                      with_reducible rfl
                                                    rotate_left
                                                    · simp only [Act.put, List.setIfInBounds_toArray, List.set_cons_zero, List.set_cons_succ, i64_w, i32_w]
                                                      rfl
                                                    refine pure_ (i := 1) (N := some 104) (v := ?_) (a' := ?_) #[true, true, false, false, false, false, false, false, false, false, false, false] rfl rfl (any_of HT_.out (by kernel_rfl)) (fun _ _ _ h => h) (Or.inl ⟨by rfl, ?_⟩) ?_ ?_
                                                    rotate_left
                                                    · intro w'
                                                      go_simp
                                                      with_reducible rfl
                                                    rotate_left
                                                    · simp only [Act.put, List.setIfInBounds_toArray, List.set_cons_zero, List.set_cons_succ, i64_w, i32_w]
                                                      rfl
                                                    refine pure_ (i := 2) (N := some 105) (v := ?_) (a' := ?_) #[true, true, true, false, false, false, false, false, false, false, false, false] rfl rfl (any_of HT_.out (by kernel_rfl)) (fun _ _ _ h => h) (Or.inl ⟨by rfl, ?_⟩) ?_ ?_
                                                    rotate_left
                                                    · intro w'
                                                      go_simp
                                                      with_reducible rfl
                                                    rotate_left
                                                    · simp only [Act.put, List.setIfInBounds_toArray, List.set_cons_zero, List.set_cons_succ, i64_w, i32_w]
                                                      rfl
                                                    refine pure_ (i := 3) (N := some 106) (v := ?_) (a' := ?_) #[true, true, true, true, false, false, false, false, false, false, false, false] rfl rfl (any_of HT_.out (by kernel_rfl)) (fun _ _ _ h => h) (Or.inl ⟨by rfl, ?_⟩) ?_ ?_
                                                    rotate_left
                                                    · intro w'
                                                      go_simp
                                                      with_reducible rfl
                                                    rotate_left
                                                    · simp only [Act.put, List.setIfInBounds_toArray, List.set_cons_zero, List.set_cons_succ, i64_w, i32_w]
                                                      rfl
                                                    refine pure_ (i := 5) (N := some 108) (v := ?_) (a' := ?_) #[true, true, true, true, false, true, false, false, false, false, false, false] rfl rfl (any_of HT_.out (by kernel_rfl)) (fun _ _ _ h => h) (Or.inl ⟨by rfl, ?_⟩) ?_ ?_
                                                    rotate_left
                                                    · intro w'
                                                      go_simp
                                                      with_reducible rfl
                                                    rotate_left
                                                    · simp only [Act.put, List.setIfInBounds_toArray, List.set_cons_zero, List.set_cons_succ, i64_w, i32_w]
                                                      rfl
                                                    refine pure_ (i := 6) (N := some 109) (v := ?_) (a' := ?_) #[true, true, true, true, false, true, true, false, false, false, false, false] rfl rfl (any_of HT_.out (by kernel_rfl)) (fun _ _ _ h => h) (Or.inl ⟨by rfl, ?_⟩) ?_ ?_
                                                    rotate_left
                                                    · intro w'
                                                      go_simp
                                                      with_reducible rfl
                                                    rotate_left
                                                    · simp only [Act.put, List.setIfInBounds_toArray, List.set_cons_zero, List.set_cons_succ, i64_w, i32_w]
                                                      rfl
                                                    refine pure_ (i := 7) (N := some 110) (v := ?_) (a' := ?_) #[true, true, true, true, false, true, true, true, false, false, false, false] rfl rfl (any_of HT_.out (by kernel_rfl)) (fun _ _ _ h => h) (Or.inl ⟨by rfl, ?_⟩) ?_ ?_
                                                    rotate_left
                                                    · intro w'
                                                      go_simp
                                                      with_reducible rfl
                                                    rotate_left
                                                    · simp only [Act.put, List.setIfInBounds_toArray, List.set_cons_zero, List.set_cons_succ, i64_w, i32_w]
                                                      rfl
                                                    refine take_ (i := 4) (N := some 107) (v := ?_) (a' := ?_) #[true, true, true, true, true, true, true, true, false, false, false, false] rfl rfl (take_ofW HT_.out HW_.out (by kernel_rfl)) (fun _ _ _ h => h) (Or.inl ⟨by rfl, ?_⟩) hHeld ?_ ?_
                                                    rotate_left
                                                    · rintro w' ⟨s0, s1⟩
                                                      go_simp
                                                      with_reducible rfl
                                                    rotate_left
                                                    · simp only [Act.put, List.setIfInBounds_toArray, List.set_cons_zero, List.set_cons_succ, i64_w, i32_w]
                                                      rfl
                                                    refine take_ (i := 8) (N := some 111) (v := ?_) (a' := ?_) #[true, true, true, true, true, true, true, true, true, false, false, false] rfl rfl (take_ofW HT_.out HW_.out (by kernel_rfl)) (fun _ _ _ h => h) (Or.inl ⟨by rfl, ?_⟩) hHeld ?_ ?_
                                                    rotate_left
                                                    · rintro w' ⟨s0, s1⟩
                                                      go_simp
                                                      with_reducible rfl
                                                    rotate_left
                                                    · simp only [Act.put, List.setIfInBounds_toArray, List.set_cons_zero, List.set_cons_succ, i64_w, i32_w]
                                                      rfl
                                                    refine pure_ (i := 9) (N := some 112) (v := ?_) (a' := ?_) #[true, true, true, true, true, true, true, true, true, true, false, false] rfl rfl (any_of HT_.out (by kernel_rfl)) (fun _ _ _ h => h) (Or.inl ⟨by rfl, ?_⟩) ?_ ?_
                                                    rotate_left
                                                    · intro w'
                                                      go_simp
                                                      with_reducible rfl
                                                    rotate_left
                                                    · simp only [Act.put, List.setIfInBounds_toArray, List.set_cons_zero, List.set_cons_succ, i64_w, i32_w]
                                                      rfl
                                                    refine pure_ (i := 10) (N := some 113) (v := ?_) (a' := ?_) #[true, true, true, true, true, true, true, true, true, true, true, false] rfl rfl (any_of HT_.out (by kernel_rfl)) (fun _ _ _ h => h) (Or.inl ⟨by rfl, ?_⟩) ?_ ?_
                                                    rotate_left
                                                    · intro w'
                                                      go_simp
                                                      with_reducible rfl
                                                    rotate_left
                                                    · simp only [Act.put, List.setIfInBounds_toArray, List.set_cons_zero, List.set_cons_succ, i64_w, i32_w]
                                                      rfl
                                                    refine last_ (i := 11) (N := none) #[true, true, true, true, true, true, true, true, true, true, true, true] rfl rfl (one_of HT_.out (by kernel_rfl)) (by decide) (fun K hK => ?_)
                                                    refine skip_ (w1 := ?_) (by rfl) rfl ?_ ?_
                                                    rotate_left
                                                    · go_simp
                                                      rfl
                                                    refine hK.out _ _ ?_
                                                    clear hK K
                                                    refine done_ (done_of HT_.out (by kernel_rfl)) ?_
                                                    have p166 : 0 ≤ (x18_3 : Int) := of_decide_eq_true (by first | (with_reducible assumption) | assumption)
                                                    have q166 : x18_3 < (t155.length : Int) := of_decide_eq_true (by first | (with_reducible assumption) | assumption)
                                                    obtain ⟨ad166, e166, hx166_0⟩ := Kd.at_int (Kd.R_reads' (Kd.R_far (p := ⟨go50, ((rd t155 x18_3) : Int).toNat, none⟩) (Kd.R_mono HO_17.out (fun k_ hk => (⟨hk, fun e_ => hk.1 (by rw [e_]; rfl)⟩ : _ ∧ k_ ≠ go50))) (fun _ hk => hk.2) (.int .i64 (wrap64 ((rd x14_3 (rd x15_2 0)) + 1))))).2.2 x18_3 p166 q166
                                                    obtain rfl : ad158 = ad166 := (by injection e166)
                                                    replace p166 := eq_true p166
                                                    replace q166 := eq_true q166
                                                    try go_wp2_with (first | ((with_reducible refine gate_builtin (b := .append) (xs := #[.tmp 114, .tmp 119]) rfl ?_); at_builtin; refine Kd.Q_append (Kd.int .i64) (w0 := w) w.heap.size rfl (.tmp 114) (.tmp 119) 83 3 (.int .i64 0) 8 rfl Try.underlying83 info3 rfl (by decide) (by omega) u15 x15_3 (rd t155 x18_3) [.int .i64 (rd t155 x18_3)] (fun k_ => some k_ ≠ (.slice (some ⟨go50, 0, none⟩) x14_3.length co55 : Value).ownBlock ∧ some k_ ≠ (.slice (some ad158) t155.length co52 : Value).ownBlock) (fun _ => False) rfl (by first | (go_simp; done) | (go_simp; rfl)) ?aP (fun _ hk => hk.elim) ?aF ?aO ?aB ?aS ?aL ?_; (case aP => exact rfl); (case aB => exact (by repeat (first | (with_reducible first | exact HB.out | apply below_alloc | apply pw_below_drewN | apply below_drew1 | refine below_set ?_ GB50.out | refine below_set ?_ GE143.out) | exact HB.out))); (case aF => exact (fun k_ hk => ⟨Kd.fresh' (Kd.R_lt (by (with_reducible repeat (first | apply Kd.R_alloc | apply Kd.R_drewN | apply Kd.R_drew)); exact HQ57.out)) k_ hk, Kd.fresh' (Kd.R_lt (by (with_reducible repeat (first | apply Kd.R_alloc | apply Kd.R_drewN | apply Kd.R_drew)); exact (Kd.R_mono (Kd.R_far (p := ⟨go50, ((rd t155 x18_3) : Int).toNat, none⟩) (Kd.R_mono HO_17.out (fun k_ hk => (⟨hk, fun e_ => hk.1 (by rw [e_]; rfl)⟩ : _ ∧ k_ ≠ go50))) (fun _ hk => hk.2) (.int .i64 (wrap64 ((rd x14_3 (rd x15_2 0)) + 1)))) (fun _ h_ => h_.1)))) k_ hk⟩)); (case aO => exact (by (with_reducible repeat (first | apply Kd.Q_alloc | apply Kd.Q_drewN | apply Kd.Q_drew)); exact Kd.Q_mono (Kd.Q_far (p := ⟨go50, ((rd t155 x18_3) : Int).toNat, none⟩) (Kd.Q_mono HO_15.out (fun k_ hk => (⟨hk, fun e_ => hk.1 (by rw [e_]; rfl)⟩ : _ ∧ k_ ≠ go50))) (fun _ hk => hk.2) (.int .i64 (wrap64 ((rd x14_3 (rd x15_2 0)) + 1)))) (fun _ hk => ⟨hk.1.1, hk.1.2⟩))); (case aS => exact (below_size (by repeat (first | (with_reducible first | exact HB.out | apply below_alloc | apply pw_below_drewN | apply below_drew1 | refine below_set ?_ GB50.out | refine below_set ?_ GE143.out) | exact HB.out)))); (case aL => have := LMc51.out; omega); intro v168 w58 ho hb hg hat; rw [← Ny167.out] at ho; have n0_ := Aside0.mk (Kd.R_after (ok := (fun k_ => some k_ ≠ (.slice (some ad158) t155.length co52 : Value).ownBlock)) (by (with_reducible repeat (first | apply Kd.R_alloc | apply Kd.R_drewN | apply Kd.R_drew)); exact Kd.R_mono HQ57.out (fun _ hk => ⟨hk.2, hk.1⟩)) hg hat); have n1_ := Aside0.mk (Kd.R_after (ok := (fun k_ => some k_ ≠ (.slice (some ⟨go50, 0, none⟩) x14_3.length co55 : Value).ownBlock)) (by (with_reducible repeat (first | apply Kd.R_alloc | apply Kd.R_drewN | apply Kd.R_drew)); exact Kd.R_mono (Kd.R_far (p := ⟨go50, ((rd t155 x18_3) : Int).toNat, none⟩) (Kd.R_mono HO_17.out (fun k_ hk => (⟨hk, fun e_ => hk.1 (by rw [e_]; rfl)⟩ : _ ∧ k_ ≠ go50))) (fun _ hk => hk.2) (.int .i64 (wrap64 ((rd x14_3 (rd x15_2 0)) + 1)))) (fun _ hk => ⟨hk.1.1, hk.1.2⟩)) hg hat); have n2_ := Aside0.mk (blk_grown (g := gb143) (o := .cells #[.int .i64 t139, .int .i64 t140, .string t141] 77 (0, 0)) (by (with_reducible repeat (first | refine blk_drewN ?_ _ | refine blk_drew ?_ | refine blk_alloc ?_ _)); refine blk_far ?_ (by have h_ := Kd.R_ne HO_14.out BK143.out (by decide); intro e_; exact h_ (by rw [e_]; rfl)) _; (with_reducible repeat (first | refine blk_drewN ?_ _ | refine blk_drew ?_ | refine blk_alloc ?_ _)); exact BK143.out) hg (Kd.Q_ne HO_15.out BK143.out (by decide))); have n3_ := Aside0.mk (hb); have n4_ := Aside0.mk (ho); clear HO_14; clear HO_17; clear BK143; clear HB; clear HO_15; have HO_14 := n0_; have HO_17 := n1_; have BK143 := n2_; have HB := n3_; have HO169 := n4_; clear n0_ n1_ n2_ n3_ n4_; clear ho hb hg hat))
                                                    go_roundg k3
                                                    case measure => have := HJ8.out; have := HK2.out; have := HK3.out; omega
                                                    case rel => exact ⟨(y165), (y167), (wrap64 (x18_3 + 1)), (by first | rfl | (simp; done) | (simp [*]; done)), H', ⟨by have := HJ8.out; have := HK2.out; have := HK3.out; omega⟩, ⟨by (with_reducible repeat (first | apply Kd.R_alloc | apply Kd.R_drewN | apply Kd.R_drew)); exact Kd.R_mono HO_14.out (fun _ hk => ⟨hk.2, hk.1⟩)⟩, ⟨by (with_reducible repeat (first | apply Kd.Q_alloc | apply Kd.Q_drewN | apply Kd.Q_drew)); exact HO169.out⟩, ⟨by (with_reducible repeat (first | apply Kd.R_alloc | apply Kd.R_drewN | apply Kd.R_drew)); exact HO_17.out⟩, ⟨by (with_reducible repeat (first | refine blk_drewN ?_ _ | refine blk_drew ?_ | refine blk_alloc ?_ _)); exact BK143.out⟩, ⟨by repeat (first | (with_reducible first | exact HB.out | apply below_alloc | apply pw_below_drewN | apply below_drew1 | refine below_set ?_ GE143.out) | exact HB.out)⟩⟩
                                                  · rw [if_neg c51] at H
                                                    exact absurd H (by simp)
                                                · rw [if_neg c49] at H
                                                  exact absurd H (by simp)
                                              · rw [if_neg c48] at H
                                                exact absurd H (by simp)
                                            · rw [if_neg c47] at H
                                              have c47b0 : ((rd x14_3 (rd t155 x18_3)) == 0) = false := beq_eq_false_iff_ne.mpr c47
                                              have c47b1 : ((rd x14_3 (rd t155 x18_3)) != 0) = true := bne_iff_ne.mpr c47
                                              have H' := Aside0.mk H
                                              clear H
                                              obtain ⟨Ao59, co59, eo59⟩ := Kd.R_slice HO_17.out
                                              subst eo59
                                              try go_wp2
                                              have n0_ := Aside0.mk (Kd.R_drew HO_14.out)
                                              have n1_ := Aside0.mk (Kd.Q_drew HO_15.out)
                                              have n2_ := Aside0.mk (Kd.R_drew HO_17.out)
                                              have n3_ := Aside0.mk (blk_drew BK143.out)
                                              have n4_ := Aside0.mk (below_drew1 HB.out)
                                              clear HO_14
                                              clear HO_15
                                              clear HO_17
                                              clear BK143
                                              clear HB
                                              have HO_14 := n0_
                                              have HO_15 := n1_
                                              have HO_17 := n2_
                                              have BK143 := n3_
                                              have HB := n4_
                                              clear n0_ n1_ n2_ n3_ n4_
                                              have p158 : 0 ≤ (x18_3 : Int) := of_decide_eq_true (by first | (with_reducible assumption) | assumption)
                                              have q158 : x18_3 < (t155.length : Int) := of_decide_eq_true (by first | (with_reducible assumption) | assumption)
                                              obtain ⟨ad158, e158, hx158_0⟩ := Kd.at_int (Kd.R_reads' HO_17.out).2.2 x18_3 p158 q158
                                              cases e158
                                              replace p158 := eq_true p158
                                              replace q158 := eq_true q158
                                              refine start_ (n := 7) (S := fun w' => w'.cell? ⟨gb143, 0, none⟩ = some (.int .i64 t139) ∧ w'.cell? ⟨gb143, 1, none⟩ = some (.int .i64 t140) ∧ w'.cell? ⟨gb143, 2, none⟩ = some (.string t141) ∧ w'.cell? (ad158.add (x18_3).toNat) = some (.int .i64 (rd t155 x18_3))) (ds := []) #[false, false, false, false, false, false, false] (by kernel_rfl) rfl rfl ⟨(blk_cell BK143.out 0).trans rfl, (blk_cell BK143.out 1).trans rfl, (blk_cell BK143.out 2).trans rfl, hx158_0⟩ (fun hHeld => ?_)
                                              generalize wr.drew = w60 at HO_14 HO_15 HO_17 BK143 HB hx158_0 hHeld ⊢
                                              refine pure_ (i := 1) (N := some 81) (v := ?_) (a' := ?_) #[false, true, false, false, false, false, false] rfl rfl (by kernel_rfl) (fun _ _ _ h => h) (Or.inl ⟨by rfl, ?_⟩) ?_ ?_
                                              rotate_left
                                              · intro w'
                                                go_simp
                                                with_reducible rfl
                                              rotate_left
                                              · simp only [Act.put, List.setIfInBounds_toArray, List.set_cons_zero, List.set_cons_succ, i64_w, i32_w]
                                                rfl
                                              refine pure_ (i := 2) (N := some 82) (v := ?_) (a' := ?_) #[false, true, true, false, false, false, false] rfl rfl (by kernel_rfl) (fun _ _ _ h => h) (Or.inl ⟨by rfl, ?_⟩) ?_ ?_
                                              rotate_left
                                              · intro w'
                                                go_simp
                                                with_reducible rfl
                                              rotate_left
                                              · simp only [Act.put, List.setIfInBounds_toArray, List.set_cons_zero, List.set_cons_succ, i64_w, i32_w]
                                                rfl
                                              refine pure_ (i := 3) (N := some 83) (v := ?_) (a' := ?_) #[false, true, true, true, false, false, false] rfl rfl (by kernel_rfl) (fun _ _ _ h => h) (Or.inl ⟨by rfl, ?_⟩) ?_ ?_
                                              rotate_left
                                              · intro w'
                                                go_simp
                                                with_reducible rfl
                                              rotate_left
                                              · simp only [Act.put, List.setIfInBounds_toArray, List.set_cons_zero, List.set_cons_succ, i64_w, i32_w]
                                                rfl
                                              refine take_ (i := 0) (N := some 80) (v := ?_) (a' := ?_) #[true, true, true, true, false, false, false] rfl rfl (by kernel_rfl) (fun _ _ _ h => h) (Or.inl ⟨by rfl, ?_⟩) hHeld ?_ ?_
                                              rotate_left
                                              · rintro w' ⟨s0, s1, s2, s3⟩
                                                go_simp
                                                with_reducible rfl
                                              rotate_left
                                              · simp only [Act.put, List.setIfInBounds_toArray, List.set_cons_zero, List.set_cons_succ, i64_w, i32_w]
                                                rfl
                                              refine take_ (i := 4) (N := some 84) (v := ?_) (a' := ?_) #[true, true, true, true, true, false, false] rfl rfl (by kernel_rfl) (fun _ _ _ h => h) (Or.inl ⟨by rfl, ?_⟩) hHeld ?_ ?_
                                              rotate_left
                                              · rintro w' ⟨s0, s1, s2, s3⟩
                                                go_simp
                                                with_reducible rfl
                                              rotate_left
                                              · simp only [Act.put, List.setIfInBounds_toArray, List.set_cons_zero, List.set_cons_succ, i64_w, i32_w]
                                                rfl
                                              refine one_ (i := 5) (N := some 85) #[true, true, true, true, true, true, false] rfl rfl (by kernel_rfl) (by decide) (fun K hK => ?_)
                                              refine goes_ Try.func35 (by kernel_rfl) rfl #[.agg #[.int .i64 t139, .int .i64 t140, .string t141], .int .i64 (rd t155 x18_3)] (by rfl) rfl rfl (by (try simp only [List.map_toArray, List.map_cons, List.map_nil]); first | done | rfl | (simp only [List.length_drop, List.length_take]; rfl)) ?_
                                              with_reducible refine (grid_Map_On.calls t139 t140 t141 (rd t155 x18_3) true _ A39.out).mono ?_
                                              rintro e w61 ⟨rfl, hb⟩
                                              have HS3_ := (hb.cell (World.block_lt_of_cell? _ _ (hHeld.2.2.2))).trans (hHeld.2.2.2)
                                              refine ⟨_, rfl, ?_⟩
                                              have n0_ := Aside0.mk (Kd.R_below (by (with_reducible repeat (first | apply Kd.R_alloc | apply Kd.R_drewN | apply Kd.R_drew)); exact HO_14.out) hb)
                                              have n1_ := Aside0.mk (Kd.Q_below (by (with_reducible repeat (first | apply Kd.Q_alloc | apply Kd.Q_drewN | apply Kd.Q_drew)); exact HO_15.out) hb)
                                              have n2_ := Aside0.mk (Kd.R_below (by (with_reducible repeat (first | apply Kd.R_alloc | apply Kd.R_drewN | apply Kd.R_drew)); exact HO_17.out) hb)
                                              have n3_ := Aside0.mk (blk_below (g := gb143) (o := .cells #[.int .i64 t139, .int .i64 t140, .string t141] 77 (0, 0)) (by (with_reducible repeat (first | refine blk_drewN ?_ _ | refine blk_drew ?_ | refine blk_alloc ?_ _)); exact BK143.out) hb)
                                              have n4_ := Aside0.mk (below_step (by repeat (first | (with_reducible first | exact HB.out | apply below_alloc | apply pw_below_drewN | apply below_drew1 | refine below_set ?_ GE143.out) | exact HB.out)) hb)
                                              clear HO_14
                                              clear HO_15
                                              clear HO_17
                                              clear BK143
                                              clear HB
                                              have HO_14 := n0_
                                              have HO_15 := n1_
                                              have HO_17 := n2_
                                              have BK143 := n3_
                                              have HB := n4_
                                              clear n0_ n1_ n2_ n3_ n4_
                                              (try clear hb)
                                              (try clear hb2)
                                              (try clear hk)
                                              (try clear hi)
                                              refine hK.out _ _ ⟨(blk_cell BK143.out 0).trans rfl, (blk_cell BK143.out 1).trans rfl, (blk_cell BK143.out 2).trans rfl, HS3_⟩ (fun hHeld => ?_)
                                              clear hK K
                                              refine norm_ (a' := ?_) ?_ ?_
                                              rotate_left
                                              · show Act.put _ (some 85) _ = _
                                                simp only [Act.put, List.setIfInBounds_toArray, List.set_cons_zero, List.set_cons_succ, i64_w, i32_w]
                                                rfl
                                              refine pure_ (i := 6) (N := some 86) (v := ?_) (a' := ?_) #[true, true, true, true, true, true, true] rfl rfl (by kernel_rfl) (fun _ _ _ h => h) (Or.inl ⟨by rfl, ?_⟩) ?_ ?_
                                              rotate_left
                                              · intro w'
                                                go_simp
                                                with_reducible rfl
                                              rotate_left
                                              · simp only [Act.put, List.setIfInBounds_toArray, List.set_cons_zero, List.set_cons_succ, i64_w, i32_w]
                                                rfl
                                              refine done_ (by kernel_rfl) ?_
                                              have p160 : 0 ≤ (x18_3 : Int) := of_decide_eq_true (by first | (with_reducible assumption) | assumption)
                                              have q160 : x18_3 < (t155.length : Int) := of_decide_eq_true (by first | (with_reducible assumption) | assumption)
                                              obtain ⟨ad160, e160, hx160_0⟩ := Kd.at_int (Kd.R_reads' HO_17.out).2.2 x18_3 p160 q160
                                              obtain rfl : ad158 = ad160 := (by injection e160)
                                              replace p160 := eq_true p160
                                              replace q160 := eq_true q160
                                              have p161 : 0 ≤ (x18_3 : Int) := of_decide_eq_true (by first | (with_reducible assumption) | assumption)
                                              have q161 : x18_3 < (t155.length : Int) := of_decide_eq_true (by first | (with_reducible assumption) | assumption)
                                              obtain ⟨ad161, e161, hx161_0⟩ := Kd.at_int (Kd.R_reads' HO_17.out).2.2 x18_3 p161 q161
                                              obtain rfl : ad158 = ad161 := (by injection e161)
                                              replace p161 := eq_true p161
                                              replace q161 := eq_true q161
                                              obtain ⟨Ao62, co62, eo62⟩ := Kd.R_slice HO_14.out
                                              subst eo62
                                              have p162 : 0 ≤ ((rd t155 x18_3) : Int) := of_decide_eq_true (by first | (with_reducible assumption) | assumption)
                                              have q162 : (rd t155 x18_3) < (x14_3.length : Int) := of_decide_eq_true (by first | (with_reducible assumption) | assumption)
                                              obtain ⟨ad162, e162, hx162_0⟩ := Kd.at_int (Kd.R_reads' HO_14.out).2.2 (rd t155 x18_3) p162 q162
                                              cases e162
                                              replace p162 := eq_true p162
                                              replace q162 := eq_true q162
                                              try go_wp2
                                              go_roundg k3
                                              case measure => have := HJ8.out; have := HK2.out; have := HK3.out; omega
                                              case rel => exact ⟨(x14_3), (x15_3), (wrap64 (x18_3 + 1)), (by first | rfl | (simp; done) | (simp [*]; done)), H', ⟨by have := HJ8.out; have := HK2.out; have := HK3.out; omega⟩, ⟨by (with_reducible repeat (first | apply Kd.R_alloc | apply Kd.R_drewN | apply Kd.R_drew)); exact HO_14.out⟩, ⟨by (with_reducible repeat (first | apply Kd.Q_alloc | apply Kd.Q_drewN | apply Kd.Q_drew)); exact HO_15.out⟩, ⟨by (with_reducible repeat (first | apply Kd.R_alloc | apply Kd.R_drewN | apply Kd.R_drew)); exact HO_17.out⟩, ⟨by (with_reducible repeat (first | refine blk_drewN ?_ _ | refine blk_drew ?_ | refine blk_alloc ?_ _)); exact BK143.out⟩, ⟨by repeat (first | (with_reducible first | exact HB.out | apply below_alloc | apply pw_below_drewN | apply below_drew1 | refine below_set ?_ GE143.out) | exact HB.out)⟩⟩
                                          · rw [if_neg c46] at H
                                            exact absurd H (by simp)
                                        · rw [if_neg c45] at H
                                          exact absurd H (by simp)
                                    · replace c40 := Bool.eq_false_iff.mpr c40
                                      subst c40
                                      have H1 : (none) = some r := by rw [if_neg (show ¬ (false = true) by decide)] at H; exact H
                                      clear H
                                      have H := H1
                                      clear H1
                                      exact absurd H (by simp)
                                  · rw [if_neg c38] at H
                                    exact absurd H (by simp)
                                · rw [if_neg c37] at H
                                  have c37b0 : decide (x18_3 < (t155.length : Int)) = false := decide_eq_false c37
                                  clear c37
                                  have H' := Aside0.mk H
                                  clear H
                                  obtain ⟨Ao63, co63, eo63⟩ := Kd.R_slice HO_17.out
                                  subst eo63
                                  go_wp2
                                  go_roundg k3
                                  case measure => have := HJ8.out; have := HK2.out; have := HK3.out; omega
                                  case rel => exact ⟨(x14_3), (x15_3), H', ⟨by have := HJ8.out; have := HK2.out; have := HK3.out; omega⟩, ⟨by (with_reducible repeat (first | apply Kd.R_alloc | apply Kd.R_drewN | apply Kd.R_drew)); exact Kd.R_mono HO_14.out (fun _ hk => hk.1)⟩, ⟨by (with_reducible repeat (first | apply Kd.Q_alloc | apply Kd.Q_drewN | apply Kd.Q_drew)); exact Kd.Q_mono HO_15.out (fun _ hk => hk.1)⟩, ⟨by (with_reducible repeat (first | refine blk_drewN ?_ _ | refine blk_drew ?_ | refine blk_alloc ?_ _)); exact BK143.out⟩, ⟨by repeat (first | (with_reducible first | exact HB.out | apply below_alloc | apply pw_below_drewN | apply below_drew1 | refine below_set ?_ GE143.out) | exact HB.out)⟩⟩
                          · rw [if_neg c31] at H
                            exact absurd H (by simp)
                        · rw [if_neg c30] at H
                          exact absurd H (by simp)
                      · rw [if_neg c29] at H
                        have c29b0 : decide (0 < (x15_2.length : Int)) = false := decide_eq_false c29
                        have c29b1 : decide (0 < x15_2.length) = false := decide_eq_false (by omega)
                        clear c29
                        replace H := Option.bind_eq_some_iff.mp H
                        obtain ⟨t170, A640, H⟩ := H
                        replace H : (rematchlaw07_GridSteps.l2 k2 a3 (wrap64 (4 + (Int.tmod (wrap64 (a0)) 9))) (wrap64 (4 + (Int.tmod (wrap64 (a1)) 9))) (Int.tmod (wrap64 (a2)) (ji22)) x14_2 t170 0 0 t139 t140 t141) = some r := H
                        have A64 := Aside0.mk A640
                        clear A640
                        have H' := Aside0.mk H
                        clear H
                        obtain ⟨Ao65, co65, eo65, _⟩ := Kd.Q_slice HO_15.out
                        subst eo65
                        have hcz66_0 : wr.cell? ⟨gb143, 0, none⟩ = some (.int .i64 t139) := (blk_cell BK143.out 0).trans rfl
                        have hcz66_1 : wr.cell? ⟨gb143, 1, none⟩ = some (.int .i64 t140) := (blk_cell BK143.out 1).trans rfl
                        have hcz66_2 : wr.cell? ⟨gb143, 2, none⟩ = some (.string t141) := (blk_cell BK143.out 2).trans rfl
                        have hfz66_0 := blk_frozen BK143.out 0
                        have hfz66_1 := blk_frozen BK143.out 1
                        have hfz66_2 := blk_frozen BK143.out 2
                        go_wp2_with (first | ((with_reducible refine gate_callee (f := 36) rfl ?_); refine goesL_ (some 125) rfl rfl Try.func36 (by kernel_rfl) rfl #[.agg #[.int .i64 t139, .int .i64 t140, .string t141], .int .i64 (Int.tmod (wrap64 (a2)) (ji22)), .int .i64 (wrap64 (a3))] rfl (by (try simp only [List.map_toArray, List.map_cons, List.map_nil]); first | done | (simp only [hji22]; rfl) | rfl | (simp only [List.length_drop, List.length_take]; rfl)) ?_; (with_reducible refine (grid_Map_Around.calls t139 t140 t141 (Int.tmod (wrap64 (a2)) (ji22)) (wrap64 (a3)) t170 _ A64.out).mono ?_); rintro e w67 ⟨v171, rfl, ho0, hb⟩; refine ⟨_, rfl, ?_⟩; have n0_ := Aside0.mk (Kd.R_elder' (by (with_reducible repeat (first | apply Kd.R_alloc | apply Kd.R_drewN | apply Kd.R_drew)); exact HO_14.out) (Kd.R_base ho0) hb); have n1_ := Aside0.mk (Kd.Q_elder' (by (with_reducible repeat (first | apply Kd.Q_alloc | apply Kd.Q_drewN | apply Kd.Q_drew)); exact HO_15.out) (Kd.R_base ho0) hb); have n2_ := Aside0.mk (Kd.R_lower (Kd.R_new' (Kd.R_new' ho0 (Kd.R_lt (by (with_reducible repeat (first | apply Kd.R_alloc | apply Kd.R_drewN | apply Kd.R_drew)); exact HO_14.out))) (Kd.Q_lt (by (with_reducible repeat (first | apply Kd.Q_alloc | apply Kd.Q_drewN | apply Kd.Q_drew)); exact HO_15.out))) (below_size (by repeat (first | (with_reducible first | exact HB.out | apply below_alloc | apply pw_below_drewN | apply below_drew1 | refine below_set ?_ GE143.out) | exact HB.out)))); have n3_ := Aside0.mk (blk_below (g := gb143) (o := .cells #[.int .i64 t139, .int .i64 t140, .string t141] 77 (0, 0)) (by (with_reducible repeat (first | refine blk_drewN ?_ _ | refine blk_drew ?_ | refine blk_alloc ?_ _)); exact BK143.out) hb); have n4_ := Aside0.mk (below_step (by repeat (first | (with_reducible first | exact HB.out | apply below_alloc | apply pw_below_drewN | apply below_drew1 | refine below_set ?_ GE143.out) | exact HB.out)) hb); clear HO_14; clear HO_15; clear BK143; clear HB; have HO_14 := n0_; have HO_15 := n1_; have HO172 := n2_; have BK143 := n3_; have HB := n4_; clear n0_ n1_ n2_ n3_ n4_; (try clear hb); (try clear hb2); (try clear hk); (try clear hi); (try clear ho0)))
                        go_loopg [20, 21] k2 (fun kq v20 v21 w' => ∃ (x20_3 : Int) (x21_3 : Int), v20 = .int .i64 x20_3 ∧ v21 = .int .i64 x21_3 ∧ Aside0 (rematchlaw07_GridSteps.l2 kq a3 (wrap64 (4 + (Int.tmod (wrap64 (a0)) 9))) (wrap64 (4 + (Int.tmod (wrap64 (a1)) 9))) (Int.tmod (wrap64 (a2)) (ji22)) x14_2 t170 x20_3 x21_3 t139 t140 t141 = some r) ∧ Aside0 (kq ≤ k2) ∧ Aside0 (Kd.R (Kd.int .i64) 3 w' w.heap.size (fun k_ => some k_ ≠ (v171 : Value).ownBlock) v146 x14_2) ∧ Aside0 (Kd.R (Kd.int .i64) 3 w' w.heap.size (fun k_ => some k_ ≠ (v146 : Value).ownBlock) v171 t170) ∧ Aside0 (w'.heap[gb143]? = some (.cells #[.int .i64 t139, .int .i64 t140, .string t141] 77 (0, 0))) ∧ Aside0 (Below w.heap.size w w'))
                        case atStart => exact ⟨(0), (0), (by first | rfl | (simp; done) | (simp [*]; done)), (by first | rfl | (simp; done) | (simp [*]; done)), H', ⟨Nat.le_refl _⟩, ⟨by (with_reducible repeat (first | apply Kd.R_alloc | apply Kd.R_drewN | apply Kd.R_drew)); exact Kd.R_mono HO_14.out (fun _ hk => hk.2)⟩, ⟨by (with_reducible repeat (first | apply Kd.R_alloc | apply Kd.R_drewN | apply Kd.R_drew)); exact Kd.R_mono HO172.out (fun _ hk => hk.1.2)⟩, ⟨by (with_reducible repeat (first | refine blk_drewN ?_ _ | refine blk_drew ?_ | refine blk_alloc ?_ _)); exact BK143.out⟩, ⟨by repeat (first | (with_reducible first | exact HB.out | apply below_alloc | apply pw_below_drewN | apply below_drew1 | refine below_set ?_ GE143.out) | exact HB.out)⟩⟩
                        case round =>
                          clear H'
                          try clear p1
                          try clear q1
                          try clear hx1
                          try clear c2
                          try clear p2
                          try clear c3
                          try clear c4
                          try clear c5
                          try clear p5
                          try clear q5
                          try clear hx5
                          try clear hf5
                          try clear p6
                          try clear p15
                          try clear q15
                          try clear hx15
                          try clear p16
                          try clear q16
                          try clear hx16
                          try clear c29
                          try clear c29b0
                          try clear c29b1
                          try clear c30
                          try clear c31
                          try clear c35
                          try clear c36
                          try clear c37
                          try clear c37b0
                          try clear c38
                          try clear c40
                          try clear c41
                          try clear c41b0
                          try clear c41b1
                          try clear c45
                          try clear c45b0
                          try clear c46
                          try clear c46b0
                          try clear c47
                          try clear c47b0
                          try clear c47b1
                          try clear c48
                          try clear c48b0
                          try clear c49
                          try clear c49b0
                          try clear p50
                          try clear q50
                          try clear hx50
                          try clear hf50
                          try clear c51
                          try clear p64
                          try clear hcz66_0
                          try clear hcz66_1
                          try clear hcz66_2
                          try clear hfz66_0
                          try clear hfz66_1
                          try clear hfz66_2
                          try clear hx158_0
                          try clear hx160_0
                          try clear hx161_0
                          try clear hx162_0
                          try clear hx163_0
                          try clear hx164_0
                          try clear hx166_0
                          try clear hx50_0
                          try clear p158
                          try clear p160
                          try clear p161
                          try clear p162
                          try clear p163
                          try clear p164
                          try clear p166
                          try clear p50
                          try clear q158
                          try clear q160
                          try clear q161
                          try clear q162
                          try clear q163
                          try clear q164
                          try clear q166
                          try clear q50
                          obtain ⟨x20_3, x21_3, rfl, rfl, HA, HK3, HO_14, HO_19, BK143, HB⟩ := hrel
                          cases gk with
                          | zero => exact absurd HA.out (by simp [rematchlaw07_GridSteps.l2])
                          | succ k3 =>
                            have H := HA.out
                            clear HA
                            simp only [rematchlaw07_GridSteps.l2] at H
                            by_cases c68 : x21_3 < (wrap64 ((wrap64 (4 + (Int.tmod (wrap64 (a0)) 9))) * (wrap64 (4 + (Int.tmod (wrap64 (a1)) 9)))))
                            · rw [if_pos c68] at H
                              have c68b0 : decide (x21_3 < (wrap64 ((wrap64 (4 + (Int.tmod (wrap64 (a0)) 9))) * (wrap64 (4 + (Int.tmod (wrap64 (a1)) 9)))))) = true := decide_eq_true c68
                              clear c68
                              (try rw [hji5] at c68b0)
                              (try rw [hji22] at c68b0)
                              replace H := Option.bind_eq_some_iff.mp H
                              obtain ⟨t174, A690, H⟩ := H
                              replace H : (if 0 ≤ x21_3 then (if x21_3 < (x14_2.length : Int) then (if t174 = (rd x14_2 x21_3) then (if (rd x14_2 x21_3) > (wrap64 (a3)) then (rematchlaw07_GridSteps.l2 k3 a3 (wrap64 (4 + (Int.tmod (wrap64 (a0)) 9))) (wrap64 (4 + (Int.tmod (wrap64 (a1)) 9))) (Int.tmod (wrap64 (a2)) (ji22)) x14_2 t170 x20_3 (wrap64 (x21_3 + 1)) t139 t140 t141) else (if x20_3 ≥ (t170.length : Int) then (none) else (if 0 ≤ x20_3 then (if x20_3 < (t170.length : Int) then (if (rd t170 x20_3) = x21_3 then (rematchlaw07_GridSteps.l2 k3 a3 (wrap64 (4 + (Int.tmod (wrap64 (a0)) 9))) (wrap64 (4 + (Int.tmod (wrap64 (a1)) 9))) (Int.tmod (wrap64 (a2)) (ji22)) x14_2 t170 (wrap64 (x20_3 + 1)) (wrap64 (x21_3 + 1)) t139 t140 t141) else (none)) else (none)) else (none)))) else (none)) else (none)) else (none)) = some r := H
                              have A69 := Aside0.mk A690
                              clear A690
                              by_cases c70 : 0 ≤ x21_3
                              · rw [if_pos c70] at H
                                have c70b0 : decide (0 ≤ x21_3) = true := decide_eq_true c70
                                clear c70
                                by_cases c71 : x21_3 < (x14_2.length : Int)
                                · rw [if_pos c71] at H
                                  have c71b0 : decide (x21_3 < (x14_2.length : Int)) = true := decide_eq_true c71
                                  clear c71
                                  by_cases c72 : t174 = (rd x14_2 x21_3)
                                  · rw [if_pos c72] at H
                                    have c72b0 : (t174 == (rd x14_2 x21_3)) = true := beq_iff_eq.mpr c72
                                    have c72b1 : (t174 != (rd x14_2 x21_3)) = false := bne_eq_false_iff_eq.mpr c72
                                    clear c72
                                    by_cases c73 : (rd x14_2 x21_3) > (wrap64 (a3))
                                    · rw [if_pos c73] at H
                                      have c73b0 : decide ((wrap64 (a3)) < (rd x14_2 x21_3)) = true := decide_eq_true c73
                                      clear c73
                                      have H' := Aside0.mk H
                                      clear H
                                      try go_wp2
                                      have n0_ := Aside0.mk (Kd.R_drew HO_14.out)
                                      have n1_ := Aside0.mk (Kd.R_drew HO_19.out)
                                      have n2_ := Aside0.mk (blk_drew BK143.out)
                                      have n3_ := Aside0.mk (below_drew1 HB.out)
                                      clear HO_14
                                      clear HO_19
                                      clear BK143
                                      clear HB
                                      have HO_14 := n0_
                                      have HO_19 := n1_
                                      have BK143 := n2_
                                      have HB := n3_
                                      clear n0_ n1_ n2_ n3_
                                      obtain ⟨Ao75, co75, eo75⟩ := Kd.R_slice HO_14.out
                                      (first | subst eo75 | (injection eo75 with f1_ f2_ f3_; have f4_ := f1_.symm; have f5_ := f3_.symm; clear f1_ f2_ f3_; subst f4_; subst f5_))
                                      have p175 : 0 ≤ (x21_3 : Int) := of_decide_eq_true (by first | (with_reducible assumption) | assumption)
                                      have q175 : x21_3 < (x14_2.length : Int) := of_decide_eq_true (by first | (with_reducible assumption) | assumption)
                                      obtain ⟨ad175, e175, hx175_0⟩ := Kd.at_int (Kd.R_reads' HO_14.out).2.2 x21_3 p175 q175
                                      cases e175
                                      replace p175 := eq_true p175
                                      replace q175 := eq_true q175
                                      refine start_ (n := 9) (S := fun w' => w'.cell? ⟨gb143, 0, none⟩ = some (.int .i64 t139) ∧ w'.cell? ⟨gb143, 1, none⟩ = some (.int .i64 t140) ∧ w'.cell? ⟨gb143, 2, none⟩ = some (.string t141) ∧ w'.cell? (ad175.add (x21_3).toNat) = some (.int .i64 (rd x14_2 x21_3))) (ds := []) #[false, false, false, false, false, false, false, false, false] (by kernel_rfl) rfl rfl ⟨(blk_cell BK143.out 0).trans rfl, (blk_cell BK143.out 1).trans rfl, (blk_cell BK143.out 2).trans rfl, hx175_0⟩ (fun hHeld => ?_); refine with_tabW rematchlaw07_GridSteps.tab25 rematchlaw07_GridSteps.bits25 (fun HT_ HW_ => ?_)
                                      generalize wr.drew = w74 at HO_14 HO_19 BK143 HB hx175_0 hHeld ⊢
                                      refine pure_ (i := 1) (N := some 134) (v := ?_) (a' := ?_) #[false, true, false, false, false, false, false, false, false] rfl rfl (any_of HT_.out (by kernel_rfl)) (fun _ _ _ h => h) (Or.inl ⟨by rfl, ?_⟩) ?_ ?_
                                      rotate_left
                                      · intro w'
                                        go_simp
                                        with_reducible rfl
                                      rotate_left
                                      · simp only [Act.put, List.setIfInBounds_toArray, List.set_cons_zero, List.set_cons_succ, i64_w, i32_w]
                                        rfl
                                      refine pure_ (i := 2) (N := some 135) (v := ?_) (a' := ?_) #[false, true, true, false, false, false, false, false, false] rfl rfl (any_of HT_.out (by kernel_rfl)) (fun _ _ _ h => h) (Or.inl ⟨by rfl, ?_⟩) ?_ ?_
                                      rotate_left
                                      · intro w'
                                        go_simp
                                        with_reducible rfl
                                      rotate_left
                                      · simp only [Act.put, List.setIfInBounds_toArray, List.set_cons_zero, List.set_cons_succ, i64_w, i32_w]
                                        rfl
                                      refine pure_ (i := 4) (N := some 137) (v := ?_) (a' := ?_) #[false, true, true, false, true, false, false, false, false] rfl rfl (any_of HT_.out (by kernel_rfl)) (fun _ _ _ h => h) (Or.inl ⟨by rfl, ?_⟩) ?_ ?_
                                      rotate_left
                                      · intro w'
                                        go_simp
                                        with_reducible rfl
                                      rotate_left
                                      · simp only [Act.put, List.setIfInBounds_toArray, List.set_cons_zero, List.set_cons_succ, i64_w, i32_w]
                                        rfl
                                      refine pure_ (i := 5) (N := some 138) (v := ?_) (a' := ?_) #[false, true, true, false, true, true, false, false, false] rfl rfl (any_of HT_.out (by kernel_rfl)) (fun _ _ _ h => h) (Or.inl ⟨by rfl, ?_⟩) ?_ ?_
                                      rotate_left
                                      · intro w'
                                        go_simp
                                        with_reducible rfl
                                      rotate_left
                                      · simp only [Act.put, List.setIfInBounds_toArray, List.set_cons_zero, List.set_cons_succ, i64_w, i32_w]
                                        rfl
                                      refine pure_ (i := 6) (N := some 139) (v := ?_) (a' := ?_) #[false, true, true, false, true, true, true, false, false] rfl rfl (any_of HT_.out (by kernel_rfl)) (fun _ _ _ h => h) (Or.inl ⟨by rfl, ?_⟩) ?_ ?_
                                      rotate_left
                                      · intro w'
                                        go_simp
                                        with_reducible rfl
                                      rotate_left
                                      · simp only [Act.put, List.setIfInBounds_toArray, List.set_cons_zero, List.set_cons_succ, i64_w, i32_w]
                                        rfl
                                      refine take_ (i := 0) (N := some 133) (v := ?_) (a' := ?_) #[true, true, true, false, true, true, true, false, false] rfl rfl (take_ofW HT_.out HW_.out (by kernel_rfl)) (fun _ _ _ h => h) (Or.inl ⟨by rfl, ?_⟩) hHeld ?_ ?_
                                      rotate_left
                                      · rintro w' ⟨s0, s1, s2, s3⟩
                                        go_simp
                                        with_reducible rfl
                                      rotate_left
                                      · simp only [Act.put, List.setIfInBounds_toArray, List.set_cons_zero, List.set_cons_succ, i64_w, i32_w]
                                        rfl
                                      refine take_ (i := 7) (N := some 140) (v := ?_) (a' := ?_) #[true, true, true, false, true, true, true, true, false] rfl rfl (take_ofW HT_.out HW_.out (by kernel_rfl)) (fun _ _ _ h => h) (Or.inl ⟨by rfl, ?_⟩) hHeld ?_ ?_
                                      rotate_left
                                      · rintro w' ⟨s0, s1, s2, s3⟩
                                        go_simp
                                        with_reducible rfl
                                      rotate_left
                                      · simp only [Act.put, List.setIfInBounds_toArray, List.set_cons_zero, List.set_cons_succ, i64_w, i32_w]
                                        rfl
                                      refine one_ (i := 3) (N := some 136) #[true, true, true, true, true, true, true, true, false] rfl rfl (one_of HT_.out (by kernel_rfl)) (by decide) (fun K hK => ?_)
                                      refine goes_ Try.func37 (by kernel_rfl) rfl #[.agg #[.int .i64 t139, .int .i64 t140, .string t141], .int .i64 (Int.tmod (wrap64 (a2)) (ji22)), .int .i64 x21_3] (by rfl) rfl rfl (by (try simp only [List.map_toArray, List.map_cons, List.map_nil]); first | done | (simp only [hji22]; rfl) | rfl | (simp only [List.length_drop, List.length_take]; rfl)) ?_
                                      with_reducible refine (grid_Map_Far.calls k3 t139 t140 t141 (Int.tmod (wrap64 (a2)) (ji22)) x21_3 t174 _ A69.out).mono ?_
                                      rintro e w76 ⟨rfl, hb⟩
                                      have HS3_ := (hb.cell (World.block_lt_of_cell? _ _ (hHeld.2.2.2))).trans (hHeld.2.2.2)
                                      refine ⟨_, rfl, ?_⟩
                                      have n0_ := Aside0.mk (Kd.R_below (by (with_reducible repeat (first | apply Kd.R_alloc | apply Kd.R_drewN | apply Kd.R_drew)); exact HO_14.out) hb)
                                      have n1_ := Aside0.mk (Kd.R_below (by (with_reducible repeat (first | apply Kd.R_alloc | apply Kd.R_drewN | apply Kd.R_drew)); exact HO_19.out) hb)
                                      have n2_ := Aside0.mk (blk_below (g := gb143) (o := .cells #[.int .i64 t139, .int .i64 t140, .string t141] 77 (0, 0)) (by (with_reducible repeat (first | refine blk_drewN ?_ _ | refine blk_drew ?_ | refine blk_alloc ?_ _)); exact BK143.out) hb)
                                      have n3_ := Aside0.mk (below_step (by repeat (first | (with_reducible first | exact HB.out | apply below_alloc | apply pw_below_drewN | apply below_drew1 | refine below_set ?_ GE143.out) | exact HB.out)) hb)
                                      clear HO_14
                                      clear HO_19
                                      clear BK143
                                      clear HB
                                      have HO_14 := n0_
                                      have HO_19 := n1_
                                      have BK143 := n2_
                                      have HB := n3_
                                      clear n0_ n1_ n2_ n3_
                                      (try clear hb)
                                      (try clear hb2)
                                      (try clear hk)
                                      (try clear hi)
                                      refine hK.out _ _ ⟨(blk_cell BK143.out 0).trans rfl, (blk_cell BK143.out 1).trans rfl, (blk_cell BK143.out 2).trans rfl, HS3_⟩ (fun hHeld => ?_)
                                      clear hK K
                                      refine norm_ (a' := ?_) ?_ ?_
                                      rotate_left
                                      · show Act.put _ (some 136) _ = _
                                        simp only [Act.put, List.setIfInBounds_toArray, List.set_cons_zero, List.set_cons_succ, i64_w, i32_w]
                                        rfl
                                      refine pure_ (i := 8) (N := some 141) (v := ?_) (a' := ?_) #[true, true, true, true, true, true, true, true, true] rfl rfl (any_of HT_.out (by kernel_rfl)) (fun _ _ _ h => h) (Or.inl ⟨by rfl, ?_⟩) ?_ ?_
                                      rotate_left
                                      · intro w'
                                        go_simp
                                        with_reducible rfl
                                      rotate_left
                                      · simp only [Act.put, List.setIfInBounds_toArray, List.set_cons_zero, List.set_cons_succ, i64_w, i32_w]
                                        rfl
                                      refine done_ (done_of HT_.out (by kernel_rfl)) ?_
                                      have p176 : 0 ≤ (x21_3 : Int) := of_decide_eq_true (by first | (with_reducible assumption) | assumption)
                                      have q176 : x21_3 < (x14_2.length : Int) := of_decide_eq_true (by first | (with_reducible assumption) | assumption)
                                      obtain ⟨ad176, e176, hx176_0⟩ := Kd.at_int (Kd.R_reads' HO_14.out).2.2 x21_3 p176 q176
                                      obtain rfl : ad175 = ad176 := (by injection e176)
                                      replace p176 := eq_true p176
                                      replace q176 := eq_true q176
                                      try go_wp2
                                      go_roundg k3
                                      case measure => have := HJ8.out; have := HK2.out; have := HK3.out; omega
                                      case rel => exact ⟨(x20_3), (wrap64 (x21_3 + 1)), (by first | rfl | (simp; done) | (simp [*]; done)), (by first | rfl | (simp; done) | (simp [*]; done)), H', ⟨by have := HJ8.out; have := HK2.out; have := HK3.out; omega⟩, ⟨by (with_reducible repeat (first | apply Kd.R_alloc | apply Kd.R_drewN | apply Kd.R_drew)); exact HO_14.out⟩, ⟨by (with_reducible repeat (first | apply Kd.R_alloc | apply Kd.R_drewN | apply Kd.R_drew)); exact HO_19.out⟩, ⟨by (with_reducible repeat (first | refine blk_drewN ?_ _ | refine blk_drew ?_ | refine blk_alloc ?_ _)); exact BK143.out⟩, ⟨by repeat (first | (with_reducible first | exact HB.out | apply below_alloc | apply pw_below_drewN | apply below_drew1 | refine below_set ?_ GE143.out) | exact HB.out)⟩⟩
                                    · rw [if_neg c73] at H
                                      have c73b0 : decide ((wrap64 (a3)) < (rd x14_2 x21_3)) = false := decide_eq_false c73
                                      clear c73
                                      by_cases c77 : x20_3 ≥ (t170.length : Int)
                                      · rw [if_pos c77] at H
                                        exact absurd H (by simp)
                                      · rw [if_neg c77] at H
                                        have c77b0 : decide ((t170.length : Int) ≤ x20_3) = false := decide_eq_false c77
                                        clear c77
                                        by_cases c78 : 0 ≤ x20_3
                                        · rw [if_pos c78] at H
                                          have c78b0 : decide (0 ≤ x20_3) = true := decide_eq_true c78
                                          clear c78
                                          by_cases c79 : x20_3 < (t170.length : Int)
                                          · rw [if_pos c79] at H
                                            have c79b0 : decide (x20_3 < (t170.length : Int)) = true := decide_eq_true c79
                                            clear c79
                                            by_cases c80 : (rd t170 x20_3) = x21_3
                                            · rw [if_pos c80] at H
                                              have c80b0 : ((rd t170 x20_3) == x21_3) = true := beq_iff_eq.mpr c80
                                              have c80b1 : ((rd t170 x20_3) != x21_3) = false := bne_eq_false_iff_eq.mpr c80
                                              clear c80
                                              have H' := Aside0.mk H
                                              clear H
                                              try go_wp2
                                              have n0_ := Aside0.mk (Kd.R_drew HO_14.out)
                                              have n1_ := Aside0.mk (Kd.R_drew HO_19.out)
                                              have n2_ := Aside0.mk (blk_drew BK143.out)
                                              have n3_ := Aside0.mk (below_drew1 HB.out)
                                              clear HO_14
                                              clear HO_19
                                              clear BK143
                                              clear HB
                                              have HO_14 := n0_
                                              have HO_19 := n1_
                                              have BK143 := n2_
                                              have HB := n3_
                                              clear n0_ n1_ n2_ n3_
                                              obtain ⟨Ao82, co82, eo82⟩ := Kd.R_slice HO_14.out
                                              (first | subst eo82 | (injection eo82 with f1_ f2_ f3_; have f4_ := f1_.symm; have f5_ := f3_.symm; clear f1_ f2_ f3_; subst f4_; subst f5_))
                                              have p175 : 0 ≤ (x21_3 : Int) := of_decide_eq_true (by first | (with_reducible assumption) | assumption)
                                              have q175 : x21_3 < (x14_2.length : Int) := of_decide_eq_true (by first | (with_reducible assumption) | assumption)
                                              obtain ⟨ad175, e175, hx175_0⟩ := Kd.at_int (Kd.R_reads' HO_14.out).2.2 x21_3 p175 q175
                                              cases e175
                                              replace p175 := eq_true p175
                                              replace q175 := eq_true q175
                                              refine start_ (n := 9) (S := fun w' => w'.cell? ⟨gb143, 0, none⟩ = some (.int .i64 t139) ∧ w'.cell? ⟨gb143, 1, none⟩ = some (.int .i64 t140) ∧ w'.cell? ⟨gb143, 2, none⟩ = some (.string t141) ∧ w'.cell? (ad175.add (x21_3).toNat) = some (.int .i64 (rd x14_2 x21_3))) (ds := []) #[false, false, false, false, false, false, false, false, false] (by kernel_rfl) rfl rfl ⟨(blk_cell BK143.out 0).trans rfl, (blk_cell BK143.out 1).trans rfl, (blk_cell BK143.out 2).trans rfl, hx175_0⟩ (fun hHeld => ?_); refine with_tabW rematchlaw07_GridSteps.tab25 rematchlaw07_GridSteps.bits25 (fun HT_ HW_ => ?_)
                                              generalize wr.drew = w81 at HO_14 HO_19 BK143 HB hx175_0 hHeld ⊢
                                              refine pure_ (i := 1) (N := some 134) (v := ?_) (a' := ?_) #[false, true, false, false, false, false, false, false, false] rfl rfl (any_of HT_.out (by kernel_rfl)) (fun _ _ _ h => h) (Or.inl ⟨by rfl, ?_⟩) ?_ ?_
                                              rotate_left
                                              · intro w'
                                                go_simp
                                                with_reducible rfl
                                              rotate_left
                                              · simp only [Act.put, List.setIfInBounds_toArray, List.set_cons_zero, List.set_cons_succ, i64_w, i32_w]
                                                rfl
                                              refine pure_ (i := 2) (N := some 135) (v := ?_) (a' := ?_) #[false, true, true, false, false, false, false, false, false] rfl rfl (any_of HT_.out (by kernel_rfl)) (fun _ _ _ h => h) (Or.inl ⟨by rfl, ?_⟩) ?_ ?_
                                              rotate_left
                                              · intro w'
                                                go_simp
                                                with_reducible rfl
                                              rotate_left
                                              · simp only [Act.put, List.setIfInBounds_toArray, List.set_cons_zero, List.set_cons_succ, i64_w, i32_w]
                                                rfl
                                              refine pure_ (i := 4) (N := some 137) (v := ?_) (a' := ?_) #[false, true, true, false, true, false, false, false, false] rfl rfl (any_of HT_.out (by kernel_rfl)) (fun _ _ _ h => h) (Or.inl ⟨by rfl, ?_⟩) ?_ ?_
                                              rotate_left
                                              · intro w'
                                                go_simp
                                                with_reducible rfl
                                              rotate_left
                                              · simp only [Act.put, List.setIfInBounds_toArray, List.set_cons_zero, List.set_cons_succ, i64_w, i32_w]
                                                rfl
                                              refine pure_ (i := 5) (N := some 138) (v := ?_) (a' := ?_) #[false, true, true, false, true, true, false, false, false] rfl rfl (any_of HT_.out (by kernel_rfl)) (fun _ _ _ h => h) (Or.inl ⟨by rfl, ?_⟩) ?_ ?_
                                              rotate_left
                                              · intro w'
                                                go_simp
                                                with_reducible rfl
                                              rotate_left
                                              · simp only [Act.put, List.setIfInBounds_toArray, List.set_cons_zero, List.set_cons_succ, i64_w, i32_w]
                                                rfl
                                              refine pure_ (i := 6) (N := some 139) (v := ?_) (a' := ?_) #[false, true, true, false, true, true, true, false, false] rfl rfl (any_of HT_.out (by kernel_rfl)) (fun _ _ _ h => h) (Or.inl ⟨by rfl, ?_⟩) ?_ ?_
                                              rotate_left
                                              · intro w'
                                                go_simp
                                                with_reducible rfl
                                              rotate_left
                                              · simp only [Act.put, List.setIfInBounds_toArray, List.set_cons_zero, List.set_cons_succ, i64_w, i32_w]
                                                rfl
                                              refine take_ (i := 0) (N := some 133) (v := ?_) (a' := ?_) #[true, true, true, false, true, true, true, false, false] rfl rfl (take_ofW HT_.out HW_.out (by kernel_rfl)) (fun _ _ _ h => h) (Or.inl ⟨by rfl, ?_⟩) hHeld ?_ ?_
                                              rotate_left
                                              · rintro w' ⟨s0, s1, s2, s3⟩
                                                go_simp
                                                with_reducible rfl
                                              rotate_left
                                              · simp only [Act.put, List.setIfInBounds_toArray, List.set_cons_zero, List.set_cons_succ, i64_w, i32_w]
                                                rfl
                                              refine take_ (i := 7) (N := some 140) (v := ?_) (a' := ?_) #[true, true, true, false, true, true, true, true, false] rfl rfl (take_ofW HT_.out HW_.out (by kernel_rfl)) (fun _ _ _ h => h) (Or.inl ⟨by rfl, ?_⟩) hHeld ?_ ?_
                                              rotate_left
                                              · rintro w' ⟨s0, s1, s2, s3⟩
                                                go_simp
                                                with_reducible rfl
                                              rotate_left
                                              · simp only [Act.put, List.setIfInBounds_toArray, List.set_cons_zero, List.set_cons_succ, i64_w, i32_w]
                                                rfl
                                              refine one_ (i := 3) (N := some 136) #[true, true, true, true, true, true, true, true, false] rfl rfl (one_of HT_.out (by kernel_rfl)) (by decide) (fun K hK => ?_)
                                              refine goes_ Try.func37 (by kernel_rfl) rfl #[.agg #[.int .i64 t139, .int .i64 t140, .string t141], .int .i64 (Int.tmod (wrap64 (a2)) (ji22)), .int .i64 x21_3] (by rfl) rfl rfl (by (try simp only [List.map_toArray, List.map_cons, List.map_nil]); first | done | (simp only [hji22]; rfl) | rfl | (simp only [List.length_drop, List.length_take]; rfl)) ?_
                                              with_reducible refine (grid_Map_Far.calls k3 t139 t140 t141 (Int.tmod (wrap64 (a2)) (ji22)) x21_3 t174 _ A69.out).mono ?_
                                              rintro e w83 ⟨rfl, hb⟩
                                              have HS3_ := (hb.cell (World.block_lt_of_cell? _ _ (hHeld.2.2.2))).trans (hHeld.2.2.2)
                                              refine ⟨_, rfl, ?_⟩
                                              have n0_ := Aside0.mk (Kd.R_below (by (with_reducible repeat (first | apply Kd.R_alloc | apply Kd.R_drewN | apply Kd.R_drew)); exact HO_14.out) hb)
                                              have n1_ := Aside0.mk (Kd.R_below (by (with_reducible repeat (first | apply Kd.R_alloc | apply Kd.R_drewN | apply Kd.R_drew)); exact HO_19.out) hb)
                                              have n2_ := Aside0.mk (blk_below (g := gb143) (o := .cells #[.int .i64 t139, .int .i64 t140, .string t141] 77 (0, 0)) (by (with_reducible repeat (first | refine blk_drewN ?_ _ | refine blk_drew ?_ | refine blk_alloc ?_ _)); exact BK143.out) hb)
                                              have n3_ := Aside0.mk (below_step (by repeat (first | (with_reducible first | exact HB.out | apply below_alloc | apply pw_below_drewN | apply below_drew1 | refine below_set ?_ GE143.out) | exact HB.out)) hb)
                                              clear HO_14
                                              clear HO_19
                                              clear BK143
                                              clear HB
                                              have HO_14 := n0_
                                              have HO_19 := n1_
                                              have BK143 := n2_
                                              have HB := n3_
                                              clear n0_ n1_ n2_ n3_
                                              (try clear hb)
                                              (try clear hb2)
                                              (try clear hk)
                                              (try clear hi)
                                              refine hK.out _ _ ⟨(blk_cell BK143.out 0).trans rfl, (blk_cell BK143.out 1).trans rfl, (blk_cell BK143.out 2).trans rfl, HS3_⟩ (fun hHeld => ?_)
                                              clear hK K
                                              refine norm_ (a' := ?_) ?_ ?_
                                              rotate_left
                                              · show Act.put _ (some 136) _ = _
                                                simp only [Act.put, List.setIfInBounds_toArray, List.set_cons_zero, List.set_cons_succ, i64_w, i32_w]
                                                rfl
                                              refine pure_ (i := 8) (N := some 141) (v := ?_) (a' := ?_) #[true, true, true, true, true, true, true, true, true] rfl rfl (any_of HT_.out (by kernel_rfl)) (fun _ _ _ h => h) (Or.inl ⟨by rfl, ?_⟩) ?_ ?_
                                              rotate_left
                                              · intro w'
                                                go_simp
                                                with_reducible rfl
                                              rotate_left
                                              · simp only [Act.put, List.setIfInBounds_toArray, List.set_cons_zero, List.set_cons_succ, i64_w, i32_w]
                                                rfl
                                              refine done_ (done_of HT_.out (by kernel_rfl)) ?_
                                              have p176 : 0 ≤ (x21_3 : Int) := of_decide_eq_true (by first | (with_reducible assumption) | assumption)
                                              have q176 : x21_3 < (x14_2.length : Int) := of_decide_eq_true (by first | (with_reducible assumption) | assumption)
                                              obtain ⟨ad176, e176, hx176_0⟩ := Kd.at_int (Kd.R_reads' HO_14.out).2.2 x21_3 p176 q176
                                              obtain rfl : ad175 = ad176 := (by injection e176)
                                              replace p176 := eq_true p176
                                              replace q176 := eq_true q176
                                              obtain ⟨Ao84, co84, eo84⟩ := Kd.R_slice HO_19.out
                                              subst eo84
                                              have p177 : 0 ≤ (x20_3 : Int) := of_decide_eq_true (by first | (with_reducible assumption) | assumption)
                                              have q177 : x20_3 < (t170.length : Int) := of_decide_eq_true (by first | (with_reducible assumption) | assumption)
                                              obtain ⟨ad177, e177, hx177_0⟩ := Kd.at_int (Kd.R_reads' HO_19.out).2.2 x20_3 p177 q177
                                              cases e177
                                              replace p177 := eq_true p177
                                              replace q177 := eq_true q177
                                              try go_wp2
                                              go_roundg k3
                                              case measure => have := HJ8.out; have := HK2.out; have := HK3.out; omega
                                              case rel => exact ⟨(wrap64 (x20_3 + 1)), (wrap64 (x21_3 + 1)), (by first | rfl | (simp; done) | (simp [*]; done)), (by first | rfl | (simp; done) | (simp [*]; done)), H', ⟨by have := HJ8.out; have := HK2.out; have := HK3.out; omega⟩, ⟨by (with_reducible repeat (first | apply Kd.R_alloc | apply Kd.R_drewN | apply Kd.R_drew)); exact HO_14.out⟩, ⟨by (with_reducible repeat (first | apply Kd.R_alloc | apply Kd.R_drewN | apply Kd.R_drew)); exact HO_19.out⟩, ⟨by (with_reducible repeat (first | refine blk_drewN ?_ _ | refine blk_drew ?_ | refine blk_alloc ?_ _)); exact BK143.out⟩, ⟨by repeat (first | (with_reducible first | exact HB.out | apply below_alloc | apply pw_below_drewN | apply below_drew1 | refine below_set ?_ GE143.out) | exact HB.out)⟩⟩
                                            · rw [if_neg c80] at H
                                              exact absurd H (by simp)
                                          · rw [if_neg c79] at H
                                            exact absurd H (by simp)
                                        · rw [if_neg c78] at H
                                          exact absurd H (by simp)
                                  · rw [if_neg c72] at H
                                    exact absurd H (by simp)
                                · rw [if_neg c71] at H
                                  exact absurd H (by simp)
                              · rw [if_neg c70] at H
                                exact absurd H (by simp)
                            · rw [if_neg c68] at H
                              have c68b0 : decide (x21_3 < (wrap64 ((wrap64 (4 + (Int.tmod (wrap64 (a0)) 9))) * (wrap64 (4 + (Int.tmod (wrap64 (a1)) 9)))))) = false := decide_eq_false c68
                              clear c68
                              (try rw [hji5] at c68b0)
                              (try rw [hji22] at c68b0)
                              by_cases c85 : x20_3 = (t170.length : Int)
                              · rw [if_pos c85] at H
                                have c85b0 : (x20_3 == (t170.length : Int)) = true := beq_iff_eq.mpr c85
                                have c85b1 : (x20_3 != (t170.length : Int)) = false := bne_eq_false_iff_eq.mpr c85
                                clear c85
                                replace H := Option.bind_eq_some_iff.mp H
                                obtain ⟨t173, A860, H⟩ := H
                                replace H : (some t173) = some r := H
                                have A86 := Aside0.mk A860
                                clear A860
                                obtain rfl := Option.some.inj H
                                obtain ⟨Ao87, co87, eo87⟩ := Kd.R_slice HO_19.out
                                subst eo87
                                go_wp2_with (first | (go_at_call 38; (with_reducible refine (rematchlaw07_wakes.calls k3  t173 _ A86.out).mono ?_); rintro e w88 ⟨rfl, hb⟩; have n0_ := Aside0.mk (Kd.R_below (by (with_reducible repeat (first | apply Kd.R_alloc | apply Kd.R_drewN | apply Kd.R_drew)); exact HO_14.out) hb); have n1_ := Aside0.mk (Kd.R_below (by (with_reducible repeat (first | apply Kd.R_alloc | apply Kd.R_drewN | apply Kd.R_drew)); exact HO_19.out) hb); have n2_ := Aside0.mk (blk_below (g := gb143) (o := .cells #[.int .i64 t139, .int .i64 t140, .string t141] 77 (0, 0)) (by (with_reducible repeat (first | refine blk_drewN ?_ _ | refine blk_drew ?_ | refine blk_alloc ?_ _)); exact BK143.out) hb); have n3_ := Aside0.mk (below_step (by repeat (first | (with_reducible first | exact HB.out | apply below_alloc | apply pw_below_drewN | apply below_drew1 | refine below_set ?_ GE143.out) | exact HB.out)) hb); clear HO_14; clear HO_19; clear BK143; clear HB; have HO_14 := n0_; have HO_19 := n1_; have BK143 := n2_; have HB := n3_; clear n0_ n1_ n2_ n3_; (try clear hb); (try clear hb2); (try clear hk); (try clear hi)))
                                go_ret
                                exact ⟨by first | rfl | (simp [errW_none, errW_some] <;> rfl) | (simp only [← hji5, ← hji22]; first | rfl | (simp [errW_none, errW_some] <;> rfl)) | (simp [*, errW_none, errW_some] <;> rfl), by repeat (first | (with_reducible first | exact HB.out | apply below_alloc | apply pw_below_drewN | apply below_drew1 | refine below_set ?_ GE143.out) | exact HB.out)⟩
                              · rw [if_neg c85] at H
                                exact absurd H (by simp)
                · rw [if_neg c24] at H
                  exact absurd H (by simp)
              · rw [if_neg c23] at H
                exact absurd H (by simp)
    · rw [if_neg c7] at H
      exact absurd H (by simp)
  · rw [if_neg c6] at H
    exact absurd H (by simp)

/-- THE ONE PURE STATEMENT of rematchlaw07_GridSteps: yours. -/
def rematchlaw07_GridSteps.Pure : Prop := ∀ (a0 : Int) (a1 : Int) (a2 : Int) (a3 : Int), (Lit.int .u8 a0).wf = true → (Lit.int .u8 a1).wf = true → (Lit.int .u8 a2).wf = true → (Lit.int .u8 a3).wf = true → ∃ k, rematchlaw07_GridSteps.f k a0 a1 a2 a3 = some true
theorem rematchlaw07_GridSteps.walk (P : rematchlaw07_GridSteps.Pure) (a0 : Int) (a1 : Int) (a2 : Int) (a3 : Int) (w : World) (w0 : (Lit.int .u8 a0).wf = true) (w1 : (Lit.int .u8 a1).wf = true) (w2 : (Lit.int .u8 a2).wf = true) (w3 : (Lit.int .u8 a3).wf = true) :
    Calls Try.prog 8 #[.int .u8 a0, .int .u8 a1, .int .u8 a2, .int .u8 a3] w fun e w' => e = .returned (.bool true) ∧ Below w.heap.size w w' := by
  obtain ⟨k, h⟩ := P a0 a1 a2 a3 w0 w1 w2 w3
  refine (rematchlaw07_GridSteps.calls k a0 a1 a2 a3 true w h).mono ?_
  rintro e w' ⟨rfl, hd⟩
  exact ⟨rfl, hd⟩

end Go.Proofs.Ytfdbibddhneklab.PGridSteps
