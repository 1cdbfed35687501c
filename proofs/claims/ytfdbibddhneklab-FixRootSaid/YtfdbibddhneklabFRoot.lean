/- The walk of the law FixRoot. No condition. -/
import Derived.Test.YtfdbibddhneklabF4
namespace Go.Proofs.Ytfdbibddhneklab
open Go.RowKit RootP
set_option maxRecDepth 100000 in
theorem fixRoot_true (n : Int) (hn : 0 ≤ n ∧ n ≤ 18446744073709551615) (w : World) : Calls Try.prog 5 #[.int .u64 n] w fun e w' => e = .returned (.bool true) ∧ Below w.heap.size w w' := by
  have hr := rt_is n hn.1
  have hr0 := hr.1
  have hr1 := hr.2.1
  have hr2 := hr.2.2
  clear hr
  have hle : rt n ≤ 4294967295 := by
    by_cases g : rt n ≤ 4294967295
    · exact g
    exfalso
    have h2 : (4294967296 : Int) ≤ rt n := by omega
    have := Int.mul_le_mul h2 h2 (by omega) hr0
    omega
  have hsq : 0 ≤ rt n * rt n ∧ rt n * rt n ≤ 18446744073709551615 := ⟨Int.mul_nonneg hr0 hr0, by omega⟩
  by_cases e : rt n = 4294967295
  · have e1 : (rt n == 4294967295) = true := beq_iff_eq.2 e
    clear e hr2
    go_enter Try.func5, Try.ntmps5
    go_wp2_with fail
    refine (root_any _ hn _).mono ?_; rintro e w1 ⟨rfl, rfl⟩
    have H := Below.refl w.heap.size w
    go_wp2_with fail
    refine (wakes_true _).mono ?_; rintro e w2 ⟨rfl, hb⟩
    go_wp2_with fail
    go_ret
    exact ⟨rfl, hb⟩
  · have e1 : (rt n == 4294967295) = false := beq_eq_false_iff_ne.2 e
    have hs2 : 0 ≤ (rt n + 1) * (rt n + 1) ∧ (rt n + 1) * (rt n + 1) ≤ 18446744073709551615 := by
      have := Int.mul_le_mul (show rt n + 1 ≤ 4294967295 by omega) (show rt n + 1 ≤ 4294967295 by omega) (by omega) (by omega)
      exact ⟨Int.mul_nonneg (by omega) (by omega), by omega⟩
    clear e
    go_enter Try.func5, Try.ntmps5
    go_wp2_with fail
    refine (root_any _ hn _).mono ?_; rintro e w1 ⟨rfl, rfl⟩
    go_wp2_with fail
    refine (wakes_true _).mono ?_; rintro e w2 ⟨rfl, hb⟩
    go_wp2_with fail
    go_ret
    exact ⟨rfl, hb⟩
end Go.Proofs.Ytfdbibddhneklab
