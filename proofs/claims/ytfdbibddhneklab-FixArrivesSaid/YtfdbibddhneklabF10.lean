/- Who steps toward a point comes nearer by 254 at least; parts of a way go one way. No condition. -/
import Derived.Test.YtfdbibddhneklabF8
namespace Go.Proofs.Ytfdbibddhneklab
open Go.RowKit RootP
theorem far_fold {x y c d : Int} (h1 : mayB x y = true) (h2 : mayB c d = true) : farI x y c d = dist x y c d := by unfold farI; rw [h1, h2]; rfl
/-- what is taken of one difference, by its size -/
theorem part_abs (dx F : Int) (hF : 256 < F) : ∃ a qa ma : Int, dx * dx = a * a ∧ (dx - (dx * 256).tdiv F) * (dx - (dx * 256).tdiv F) = (a - qa) * (a - qa) ∧ F * qa + ma = 256 * a ∧ ma < F ∧ qa ≤ a := by
  rcases Int.le_total 0 dx with h | h
  · have h0 : 0 ≤ dx * 256 := by omega
    rw [Int.tdiv_eq_ediv_of_nonneg h0]
    refine ⟨dx, dx * 256 / F, dx * 256 % F, rfl, rfl, by have := Int.mul_ediv_add_emod (dx * 256) F; omega, Int.emod_lt_of_pos _ (by omega), ?_⟩
    exact Int.ediv_le_of_le_mul (by omega) (Int.mul_le_mul_of_nonneg_left (by omega) h)
  · have h0 : 0 ≤ -dx * 256 := by omega
    have e : (dx * 256).tdiv F = -((-dx * 256) / F) := by
      rw [← Int.tdiv_eq_ediv_of_nonneg h0, show dx * 256 = -(-dx * 256) by omega, Int.neg_tdiv]
      try (congr 2; omega)
    rw [e]
    refine ⟨-dx, -dx * 256 / F, -dx * 256 % F, by rw [Int.neg_mul_neg], ?_, by have := Int.mul_ediv_add_emod (-dx * 256) F; omega, Int.emod_lt_of_pos _ (by omega), ?_⟩
    · have : dx - -(-dx * 256 / F) = -(-dx - -dx * 256 / F) := by omega
      rw [this, Int.neg_mul_neg]
    · exact Int.ediv_le_of_le_mul (by omega) (Int.mul_le_mul_of_nonneg_left (by omega) (by omega))
theorem far_step (x y c d : Int) (h1 : mayB x y = true) (h2 : mayB c d = true) (hF : 256 < farI x y c d) :
    mayB (partI x c 256 (farI x y c d)) (partI y d 256 (farI x y c d)) = true ∧ farI (partI x c 256 (farI x y c d)) (partI y d 256 (farI x y c d)) c d + 254 ≤ farI x y c d := by
  have hm1 := mayB_true.1 h1
  have hm2 := mayB_true.1 h2
  have hmay : mayB (partI x c 256 (farI x y c d)) (partI y d 256 (farI x y c d)) = true := by
    have r1 := part_range (a := x) (b := c) (p := 256) (n := farI x y c d) (by omega) (by omega) (by omega) (by omega)
    have r2 := part_range (a := y) (b := d) (p := 256) (n := farI x y c d) (by omega) (by omega) (by omega) (by omega)
    exact mayB_true.2 ⟨r1.1, r1.2, r2.1, r2.2⟩
  refine ⟨hmay, ?_⟩
  rw [far_fold hmay h2]
  have hd := (dist_bound x y c d h1 h2).1
  have hR := rt_is _ hd.1
  have hd' := (dist_bound _ _ c d hmay h2).1
  have hR' := rt_is _ hd'.1
  have hfold := far_fold h1 h2
  generalize hFF : farI x y c d = F at *
  unfold dist at hfold
  rw [← hfold] at hR
  obtain ⟨a, qa, ma, e1, e2, e3, e4, e5⟩ := part_abs (c - x) F hF
  obtain ⟨b, qb, mb, f1, f2, f3, f4, f5⟩ := part_abs (d - y) F hF
  unfold dist
  have g1 : c - partI x c 256 F = (c - x) - ((c - x) * 256).tdiv F := by unfold partI; omega
  have g2 : d - partI y d 256 F = (d - y) - ((d - y) * 256).tdiv F := by unfold partI; omega
  rw [g1, g2, e2, f2] at hR' ⊢
  rw [e1, f1] at hR
  exact FixP.shrink a b qa qb ma mb F _ hF hR.2.2 e3 e4 e5 f3 f4 f5 hR'.2.1
theorem part_zero (a c n : Int) : partI a c 0 n = a := by unfold partI; simp
theorem part_all (a c n : Int) (h : 1 ≤ n) : partI a c n n = c := by
  unfold partI
  rw [Int.mul_tdiv_cancel _ (by omega)]
  omega
theorem part_mono (a c k n : Int) (hn : 1 ≤ n) (hk : 0 ≤ k ∧ k < n) : (a ≤ partI a c k n ∧ partI a c k n ≤ partI a c (k + 1) n ∧ partI a c (k + 1) n ≤ c) ∨ (partI a c k n ≤ a ∧ partI a c (k + 1) n ≤ partI a c k n ∧ c ≤ partI a c (k + 1) n) := by
  have t1 := tdiv_part (c - a) k n (by omega) hn
  have t2 := tdiv_part (c - a) (k + 1) n (by omega) hn
  unfold partI
  rcases Int.le_total 0 (c - a) with h | h
  · have h1 := t1.1 h
    have h2 := t2.1 h
    have h3 : ((c - a) * k).tdiv n ≤ ((c - a) * (k + 1)).tdiv n := by
      rw [Int.tdiv_eq_ediv_of_nonneg (Int.mul_nonneg h hk.1), Int.tdiv_eq_ediv_of_nonneg (Int.mul_nonneg h (by omega))]
      exact Int.ediv_le_ediv (by omega) (Int.mul_le_mul_of_nonneg_left (by omega) h)
    exact .inl ⟨by omega, by omega, by omega⟩
  · have h1 := t1.2 h
    have h2 := t2.2 h
    have h3 : ((c - a) * (k + 1)).tdiv n ≤ ((c - a) * k).tdiv n := by
      have e1 : ((c - a) * k).tdiv n = -((-(c - a) * k) / n) := by
        rw [← Int.tdiv_eq_ediv_of_nonneg (Int.mul_nonneg (by omega) hk.1), Int.neg_mul, Int.neg_tdiv]; omega
      have e2 : ((c - a) * (k + 1)).tdiv n = -((-(c - a) * (k + 1)) / n) := by
        rw [← Int.tdiv_eq_ediv_of_nonneg (Int.mul_nonneg (by omega) (by omega)), Int.neg_mul, Int.neg_tdiv]; omega
      rw [e1, e2]
      have := Int.ediv_le_ediv (c := n) (by omega) (Int.mul_le_mul_of_nonneg_left (show k ≤ k + 1 by omega) (show 0 ≤ -(c - a) by omega))
      omega
    exact .inr ⟨by omega, by omega, by omega⟩
theorem nearer_any (a b c d : Int) (h : (a ≤ b ∧ b ≤ c ∧ c ≤ d) ∨ (b ≤ a ∧ c ≤ b ∧ d ≤ c)) (w : World) : Calls Try.prog 25 #[.int .i32 a, .int .i32 b, .int .i32 c, .int .i32 d] w fun e w' => e = .returned (.bool true) ∧ w = w' := by
  by_cases h1 : a ≤ b
  · by_cases h2 : b ≤ c
    · by_cases h3 : c ≤ d
      · clear h
        go_enter Try.func25, Try.ntmps25
        go_wp2
        go_ret
        exact ⟨rfl, rfl⟩
      · obtain ⟨k1, k2, k3⟩ : b ≤ a ∧ c ≤ b ∧ d ≤ c := by omega
        clear h
        go_enter Try.func25, Try.ntmps25
        go_wp2
        go_ret
        exact ⟨rfl, rfl⟩
    · obtain ⟨k1, k2, k3⟩ : b ≤ a ∧ c ≤ b ∧ d ≤ c := by omega
      clear h
      go_enter Try.func25, Try.ntmps25
      go_wp2
      go_ret
      exact ⟨rfl, rfl⟩
  · obtain ⟨k1, k2, k3⟩ : b ≤ a ∧ c ≤ b ∧ d ≤ c := by omega
    clear h
    go_enter Try.func25, Try.ntmps25
    go_wp2
    go_ret
    exact ⟨rfl, rfl⟩
end Go.Proofs.Ytfdbibddhneklab
