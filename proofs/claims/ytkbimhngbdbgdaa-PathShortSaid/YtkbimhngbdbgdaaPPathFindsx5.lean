-- by a program of ours (the kit's print, turned, and hand texts beside it), out of the translation; not trusted: Lean checks it
import Derived.Test.YtkbimhngbdbgdaaPPathFindsx0
import Derived.Test.YtkbimhngbdbgdaaPPathFindsx2
import Derived.Test.YtkbimhngbdbgdaaPPathFindsx3
import Derived.Test.YtkbimhngbdbgdaaPPathFindsx4
namespace Go.Proofs.Ytkbimhngbdbgdaa.PPathFinds
open Go.RowKit Go.Proofs.YtkbimhngbdbgdaaW.PrintWords Go.Proofs.YtkbimhngbdbgdaaW.PrintLast Go.Proofs.YtkbimhngbdbgdaaW.PrintMore
attribute [local go_sem] max2_int min2_int max_two min_two max_three min_three max_four min_four   -- for this text's walks alone
set_option linter.unusedVariables false
set_option linter.unusedSimpArgs false
/-! ### rematchref10_Find: function 10 -/
mutual
def rematchref10_Find.j0 : Nat → List Int → Int → Int → Int → Bool → Int → Int → ByteArray → Option (List Int × Bool)
  | 0, _, _, _, _, _, _, _, _ => none
  | k + 1, x1, x2, x3, x4, x32, x155000, x155001, x155002 => if x32 = true then (some (([] : List Int), false)) else (if 0 ≤ (wrap64 (x155000 * x155001)) then (if (wrap64 (x155000 * x155001) : Int).toNat ≤ 11728124029610 then ((some (List.replicate (wrap64 (x155000 * x155001) : Int).toNat z58 : List (S58))).bind fun y157 => (if 0 ≤ x2 then (if x2 < (y157.length : Int) then (rematchref10_Find.l0 k x1 x2 x3 x4 (y157.set (x2 : Int).toNat (⟨true, true, 0, 0⟩ : S58)) 0 x155000 x155001 x155002) else (none)) else (none))) else (none)) else (none))
def rematchref10_Find.l0 : Nat → List Int → Int → Int → Int → List (S58) → Int → Int → Int → ByteArray → Option (List Int × Bool)
  | 0, _, _, _, _, _, _, _, _, _ => none
  | k + 1, x1, x2, x3, x4, x12, x13, x155000, x155001, x155002 => if x13 < 600 then ((rematchref10_best.f k x155000 x155001 x155002 x12 x3 x4).bind fun t161 => (if t161 < 0 then (some (([] : List Int), false)) else (if 0 ≤ t161 then (if t161 < (x12.length : Int) then ((some (x12.set (t161 : Int).toNat (⟨(rd_T58 x12 t161).f0, false, (rd_T58 x12 t161).f2, (rd_T58 x12 t161).f3⟩ : S58) : List (S58))).bind fun y162 => ((rematchref10_far.f k x155000 x155001 x155002 t161 x3 x4).bind fun t163 => (if t163 = 0 then (rematchref10_Find.l1 k x2 y162 t161 ([] : List Int)) else ((rematchref07_Map_Next.f k x155000 x155001 x155002 t161).bind fun t171 => (rematchref10_Find.l2 k x1 x2 x3 x4 y162 x13 t161 t171 0 x155000 x155001 x155002))))) else (none)) else (none)))) else (some (([] : List Int), false))
def rematchref10_Find.l1 : Nat → Int → List (S58) → Int → List Int → Option (List Int × Bool)
  | 0, _, _, _, _ => none
  | k + 1, x2, x12, x14, x15 => if x14 = x2 then (some (x15, true)) else ((some (([x14] : List Int) : List Int)).bind fun y164 => (if y164.length + x15.length < 17592186044416 then (if 0 ≤ x14 then (if x14 < (x12.length : Int) then (rematchref10_Find.l1 k x2 x12 ((rd_T58 x12 x14).f3) (y164 ++ x15)) else (none)) else (none)) else (none)))
def rematchref10_Find.l2 : Nat → List Int → Int → Int → Int → List (S58) → Int → Int → List Int → Int → Int → Int → ByteArray → Option (List Int × Bool)
  | 0, _, _, _, _, _, _, _, _, _, _, _, _ => none
  | k + 1, x1, x2, x3, x4, x12, x13, x14, x16, x17, x155000, x155001, x155002 => if x17 < (x16.length : Int) then (if 0 ≤ x17 then (if 0 ≤ (rd x16 x17) then (if (rd x16 x17) < (x12.length : Int) then ((rematchref07_Map_Is.f x155000 x155001 x155002 (rd x16 x17)).bind fun t178 => (if t178 = 0 then ((rematchref10_in.f k x1 (rd x16 x17)).bind fun t180 => (if t180 = true then (rematchref10_Find.l2 k x1 x2 x3 x4 x12 x13 x14 x16 (wrap64 (x17 + 1)) x155000 x155001 x155002) else (if (rd_T58 x12 (rd x16 x17)).f0 = true then (if 0 ≤ x14 then (if x14 < (x12.length : Int) then (if ((rd_T58 x12 (rd x16 x17)).f2) ≤ (wrap64 (((rd_T58 x12 x14).f2) + 1)) then (rematchref10_Find.l2 k x1 x2 x3 x4 x12 x13 x14 x16 (wrap64 (x17 + 1)) x155000 x155001 x155002) else (rematchref10_Find.l2 k x1 x2 x3 x4 (x12.set ((rd x16 x17) : Int).toNat (⟨true, true, wrap64 (((rd_T58 x12 x14).f2) + 1), x14⟩ : S58)) x13 x14 x16 (wrap64 (x17 + 1)) x155000 x155001 x155002)) else (none)) else (none)) else (if 0 ≤ x14 then (if x14 < (x12.length : Int) then (rematchref10_Find.l2 k x1 x2 x3 x4 (x12.set ((rd x16 x17) : Int).toNat (⟨true, true, wrap64 (((rd_T58 x12 x14).f2) + 1), x14⟩ : S58)) x13 x14 x16 (wrap64 (x17 + 1)) x155000 x155001 x155002) else (none)) else (none))))) else (rematchref10_Find.l2 k x1 x2 x3 x4 x12 x13 x14 x16 (wrap64 (x17 + 1)) x155000 x155001 x155002))) else (none)) else (none)) else (none)) else (rematchref10_Find.l0 k x1 x2 x3 x4 x12 (wrap64 (x13 + 1)) x155000 x155001 x155002)
end
def rematchref10_Find.f (k : Nat) (a0_0 : Int) (a0_1 : Int) (a0_2 : ByteArray) (l1 : List Int) (a2 : Int) (a3 : Int) (a4 : Int) : Option (List Int × Bool) := (rematchref07_Map_On.f a0_0 a0_1 a0_2 a2).bind fun t155 => (if t155 = true then ((rematchref07_Map_On.f a0_0 a0_1 a0_2 a3).bind fun t156 => (if t156 = true then (rematchref10_Find.j0 k l1 a2 a3 a4 (decide (a4 < 0)) a0_0 a0_1 a0_2) else (rematchref10_Find.j0 k l1 a2 a3 a4 true a0_0 a0_1 a0_2))) else (rematchref10_Find.j0 k l1 a2 a3 a4 true a0_0 a0_1 a0_2))
theorem rematchref10_Find.mono_l : ∀ k, (∀ y0 y1 y2 y3 y4 y5 y6 y7, LeO (rematchref10_Find.j0 k y0 y1 y2 y3 y4 y5 y6 y7) (rematchref10_Find.j0 (k + 1) y0 y1 y2 y3 y4 y5 y6 y7)) ∧ (∀ y0 y1 y2 y3 y4 y5 y6 y7 y8, LeO (rematchref10_Find.l0 k y0 y1 y2 y3 y4 y5 y6 y7 y8) (rematchref10_Find.l0 (k + 1) y0 y1 y2 y3 y4 y5 y6 y7 y8)) ∧ (∀ y0 y1 y2 y3, LeO (rematchref10_Find.l1 k y0 y1 y2 y3) (rematchref10_Find.l1 (k + 1) y0 y1 y2 y3)) ∧ (∀ y0 y1 y2 y3 y4 y5 y6 y7 y8 y9 y10 y11, LeO (rematchref10_Find.l2 k y0 y1 y2 y3 y4 y5 y6 y7 y8 y9 y10 y11) (rematchref10_Find.l2 (k + 1) y0 y1 y2 y3 y4 y5 y6 y7 y8 y9 y10 y11))
  | 0 => ⟨fun _ _ _ _ _ _ _ _ r h => by simp [rematchref10_Find.j0] at h, fun _ _ _ _ _ _ _ _ _ r h => by simp [rematchref10_Find.l0] at h, fun _ _ _ _ r h => by simp [rematchref10_Find.l1] at h, fun _ _ _ _ _ _ _ _ _ _ _ _ r h => by simp [rematchref10_Find.l2] at h⟩
  | k + 1 => by
   obtain ⟨ih0, ih1, ih2, ih3⟩ := rematchref10_Find.mono_l k; refine ⟨?_, ?_, ?_, ?_⟩
   · intro y0 y1 y2 y3 y4 y5 y6 y7
     unfold rematchref10_Find.j0
     repeat' first
     | (with_reducible exact ih0 _ _ _ _ _ _ _ _)
     | (with_reducible exact ih1 _ _ _ _ _ _ _ _ _)
     | (with_reducible exact ih2 _ _ _ _)
     | (with_reducible exact ih3 _ _ _ _ _ _ _ _ _ _ _ _)
     | (with_reducible exact rematchref07_Map_Next.mono _ _ _ _ _)
     | (with_reducible exact rematchref10_best.mono _ _ _ _ _ _ _)
     | (with_reducible exact rematchref10_far.mono _ _ _ _ _ _ _)
     | (with_reducible exact rematchref10_in.mono _ _ _)
     | (with_reducible exact LeO.refl _)
     | (with_reducible exact LeO.none _)
     | (with_reducible refine LeO.ite ?_ ?_)
     | (with_reducible refine LeO.bind ?_ (fun _ => ?_))
     | exact ih0 _ _ _ _ _ _ _ _
     | exact ih1 _ _ _ _ _ _ _ _ _
     | exact ih2 _ _ _ _
     | exact ih3 _ _ _ _ _ _ _ _ _ _ _ _
     | exact rematchref07_Map_Next.mono _ _ _ _ _
     | exact rematchref10_best.mono _ _ _ _ _ _ _
     | exact rematchref10_far.mono _ _ _ _ _ _ _
     | exact rematchref10_in.mono _ _ _
     | exact LeO.none _
     | refine LeO.ite ?_ ?_
     | refine LeO.bind ?_ (fun _ => ?_)
   · intro y0 y1 y2 y3 y4 y5 y6 y7 y8
     unfold rematchref10_Find.l0
     repeat' first
     | (with_reducible exact ih0 _ _ _ _ _ _ _ _)
     | (with_reducible exact ih1 _ _ _ _ _ _ _ _ _)
     | (with_reducible exact ih2 _ _ _ _)
     | (with_reducible exact ih3 _ _ _ _ _ _ _ _ _ _ _ _)
     | (with_reducible exact rematchref07_Map_Next.mono _ _ _ _ _)
     | (with_reducible exact rematchref10_best.mono _ _ _ _ _ _ _)
     | (with_reducible exact rematchref10_far.mono _ _ _ _ _ _ _)
     | (with_reducible exact rematchref10_in.mono _ _ _)
     | (with_reducible exact LeO.refl _)
     | (with_reducible exact LeO.none _)
     | (with_reducible refine LeO.ite ?_ ?_)
     | (with_reducible refine LeO.bind ?_ (fun _ => ?_))
     | exact ih0 _ _ _ _ _ _ _ _
     | exact ih1 _ _ _ _ _ _ _ _ _
     | exact ih2 _ _ _ _
     | exact ih3 _ _ _ _ _ _ _ _ _ _ _ _
     | exact rematchref07_Map_Next.mono _ _ _ _ _
     | exact rematchref10_best.mono _ _ _ _ _ _ _
     | exact rematchref10_far.mono _ _ _ _ _ _ _
     | exact rematchref10_in.mono _ _ _
     | exact LeO.none _
     | refine LeO.ite ?_ ?_
     | refine LeO.bind ?_ (fun _ => ?_)
   · intro y0 y1 y2 y3
     unfold rematchref10_Find.l1
     repeat' first
     | (with_reducible exact ih0 _ _ _ _ _ _ _ _)
     | (with_reducible exact ih1 _ _ _ _ _ _ _ _ _)
     | (with_reducible exact ih2 _ _ _ _)
     | (with_reducible exact ih3 _ _ _ _ _ _ _ _ _ _ _ _)
     | (with_reducible exact rematchref07_Map_Next.mono _ _ _ _ _)
     | (with_reducible exact rematchref10_best.mono _ _ _ _ _ _ _)
     | (with_reducible exact rematchref10_far.mono _ _ _ _ _ _ _)
     | (with_reducible exact rematchref10_in.mono _ _ _)
     | (with_reducible exact LeO.refl _)
     | (with_reducible exact LeO.none _)
     | (with_reducible refine LeO.ite ?_ ?_)
     | (with_reducible refine LeO.bind ?_ (fun _ => ?_))
     | exact ih0 _ _ _ _ _ _ _ _
     | exact ih1 _ _ _ _ _ _ _ _ _
     | exact ih2 _ _ _ _
     | exact ih3 _ _ _ _ _ _ _ _ _ _ _ _
     | exact rematchref07_Map_Next.mono _ _ _ _ _
     | exact rematchref10_best.mono _ _ _ _ _ _ _
     | exact rematchref10_far.mono _ _ _ _ _ _ _
     | exact rematchref10_in.mono _ _ _
     | exact LeO.none _
     | refine LeO.ite ?_ ?_
     | refine LeO.bind ?_ (fun _ => ?_)
   intro y0 y1 y2 y3 y4 y5 y6 y7 y8 y9 y10 y11
   unfold rematchref10_Find.l2
   repeat' first
   | (with_reducible exact ih0 _ _ _ _ _ _ _ _)
   | (with_reducible exact ih1 _ _ _ _ _ _ _ _ _)
   | (with_reducible exact ih2 _ _ _ _)
   | (with_reducible exact ih3 _ _ _ _ _ _ _ _ _ _ _ _)
   | (with_reducible exact rematchref07_Map_Next.mono _ _ _ _ _)
   | (with_reducible exact rematchref10_best.mono _ _ _ _ _ _ _)
   | (with_reducible exact rematchref10_far.mono _ _ _ _ _ _ _)
   | (with_reducible exact rematchref10_in.mono _ _ _)
   | (with_reducible exact LeO.refl _)
   | (with_reducible exact LeO.none _)
   | (with_reducible refine LeO.ite ?_ ?_)
   | (with_reducible refine LeO.bind ?_ (fun _ => ?_))
   | exact ih0 _ _ _ _ _ _ _ _
   | exact ih1 _ _ _ _ _ _ _ _ _
   | exact ih2 _ _ _ _
   | exact ih3 _ _ _ _ _ _ _ _ _ _ _ _
   | exact rematchref07_Map_Next.mono _ _ _ _ _
   | exact rematchref10_best.mono _ _ _ _ _ _ _
   | exact rematchref10_far.mono _ _ _ _ _ _ _
   | exact rematchref10_in.mono _ _ _
   | exact LeO.none _
   | refine LeO.ite ?_ ?_
   | refine LeO.bind ?_ (fun _ => ?_)
theorem rematchref10_Find.mono : ∀ a0 a1 a2 a3 a4 a5 a6 k, LeO (rematchref10_Find.f k a0 a1 a2 a3 a4 a5 a6) (rematchref10_Find.f (k + 1) a0 a1 a2 a3 a4 a5 a6) := by
  intro a0 a1 a2 a3 a4 a5 a6 k
  obtain ⟨ih0, ih1, ih2, ih3⟩ := rematchref10_Find.mono_l k
  unfold rematchref10_Find.f
  repeat' first
   | (with_reducible exact ih0 _ _ _ _ _ _ _ _)
   | (with_reducible exact ih1 _ _ _ _ _ _ _ _ _)
   | (with_reducible exact ih2 _ _ _ _)
   | (with_reducible exact ih3 _ _ _ _ _ _ _ _ _ _ _ _)
   | (with_reducible exact rematchref07_Map_Next.mono _ _ _ _ _)
   | (with_reducible exact rematchref10_best.mono _ _ _ _ _ _ _)
   | (with_reducible exact rematchref10_far.mono _ _ _ _ _ _ _)
   | (with_reducible exact rematchref10_in.mono _ _ _)
   | (with_reducible exact LeO.refl _)
   | (with_reducible exact LeO.none _)
   | (with_reducible refine LeO.ite ?_ ?_)
   | (with_reducible refine LeO.bind ?_ (fun _ => ?_))
   | exact ih0 _ _ _ _ _ _ _ _
   | exact ih1 _ _ _ _ _ _ _ _ _
   | exact ih2 _ _ _ _
   | exact ih3 _ _ _ _ _ _ _ _ _ _ _ _
   | exact rematchref07_Map_Next.mono _ _ _ _ _
   | exact rematchref10_best.mono _ _ _ _ _ _ _
   | exact rematchref10_far.mono _ _ _ _ _ _ _
   | exact rematchref10_in.mono _ _ _
   | exact LeO.none _
   | refine LeO.ite ?_ ?_
   | refine LeO.bind ?_ (fun _ => ?_)
end Go.Proofs.Ytkbimhngbdbgdaa.PPathFinds