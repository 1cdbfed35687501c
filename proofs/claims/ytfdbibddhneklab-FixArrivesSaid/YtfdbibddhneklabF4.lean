/- The walks of fix: Between, and what is known of it (wakes). No condition. -/
import Derived.Test.YtfdbibddhneklabF3
namespace Go.Proofs.Ytfdbibddhneklab
open Go.RowKit RootP
set_option maxRecDepth 100000 in
theorem between_no (a b c d p n : Int) (h : (mayB a b && mayB c d) = false) (w : World) : Calls Try.prog 21 #[.agg #[.int .i32 a, .int .i32 b], .agg #[.int .i32 c, .int .i32 d], .int .i64 p, .int .i64 n] w fun e w' => e = .returned (.agg #[.int .i32 0, .int .i32 0]) ∧ Below w.heap.size w w' := by
  cases h1 : mayB a b
  · clear h
    go_enter Try.func21, Try.ntmps21
    go_wp2_with fail
    refine (may_any _ _ _).mono ?_; rintro e w1 ⟨rfl, hb⟩
    obtain ⟨H, hz0, hz1, hz2⟩ := below3 hb
    obtain ⟨hc, hf⟩ := bcell hb
    clear hb
    go_wp2_with fail
    exact bodyPost_ret (v := .agg #[.int .i32 0, .int .i32 0]) (by simp [results, Try.results21, go_sem, hc]) rfl ⟨rfl, (H.setCell (by simp; omega) _).setCell (by simp; omega) _⟩
  · have h2 : mayB c d = false := by rw [h1] at h; simpa using h
    clear h
    go_enter Try.func21, Try.ntmps21
    go_wp2_with fail
    refine (may_any _ _ _).mono ?_; rintro e w1 ⟨rfl, hb⟩
    obtain ⟨H, hz0, hz1, hz2⟩ := below3 hb
    obtain ⟨hc, hf⟩ := bcell hb
    clear hb
    go_wp2_with fail
    refine (may_any _ _ _).mono ?_; rintro e w2 ⟨rfl, hb⟩
    replace H := bnext H (Nat.le_refl _) hb
    obtain ⟨hc2, hf2⟩ := bcell hb
    clear hb
    go_wp2_with fail
    exact bodyPost_ret (v := .agg #[.int .i32 0, .int .i32 0]) (by simp [results, Try.results21, go_sem, hc, hc2, hz2]) rfl ⟨rfl, (H.setCell (by simp; omega) _).setCell (by simp; omega) _⟩
set_option maxRecDepth 100000 in
theorem between_bad (a b c d p n : Int) (h1 : mayB a b = true) (h2 : mayB c d = true) (h : ¬ (1 ≤ n ∧ n ≤ 1048576 ∧ 0 ≤ p ∧ p ≤ n)) (w : World) : Calls Try.prog 21 #[.agg #[.int .i32 a, .int .i32 b], .agg #[.int .i32 c, .int .i32 d], .int .i64 p, .int .i64 n] w fun e w' => e = .returned (.agg #[.int .i32 a, .int .i32 b]) ∧ Below w.heap.size w w' := by
  have hq : n < 1 ∨ (¬ n < 1 ∧ 1048576 < n) ∨ (¬ n < 1 ∧ ¬ 1048576 < n ∧ p < 0) ∨ (¬ n < 1 ∧ ¬ 1048576 < n ∧ ¬ p < 0 ∧ n < p) := by omega
  clear h
  rcases hq with g | ⟨g0, g⟩ | ⟨g0, g1, g⟩ | ⟨g0, g1, g2, g⟩
  all_goals
    go_enter Try.func21, Try.ntmps21
    go_wp2_with fail
    refine (may_any _ _ _).mono ?_; rintro e w1 ⟨rfl, hb⟩
    obtain ⟨H, hz0, hz1, hz2⟩ := below3 hb
    obtain ⟨hc, hf⟩ := bcell hb
    clear hb
    go_wp2_with fail
    refine (may_any _ _ _).mono ?_; rintro e w2 ⟨rfl, hb⟩
    replace H := bnext H (Nat.le_refl _) hb
    obtain ⟨hc2, hf2⟩ := bcell hb
    clear hb
    go_wp2_with fail
    exact bodyPost_ret (v := .agg #[.int .i32 a, .int .i32 b]) (by simp [results, Try.results21, go_sem, hc, hc2, hz2]) rfl ⟨rfl, (H.setCell (by simp; omega) _).setCell (by simp; omega) _⟩
set_option maxRecDepth 100000 in
theorem between_in (a b c d p n : Int) (h1 : mayB a b = true) (h2 : mayB c d = true) (h : 1 ≤ n ∧ n ≤ 1048576 ∧ 0 ≤ p ∧ p ≤ n) (w : World) : Calls Try.prog 21 #[.agg #[.int .i32 a, .int .i32 b], .agg #[.int .i32 c, .int .i32 d], .int .i64 p, .int .i64 n] w fun e w' => e = .returned (.agg #[.int .i32 (partI a c p n), .int .i32 (partI b d p n)]) ∧ Below w.heap.size w w' := by
  have hm1 := mayB_true.1 h1
  have hm2 := mayB_true.1 h2
  have g0 : ¬ n < 1 := by omega
  have g1 : ¬ 1048576 < n := by omega
  have g2 : ¬ p < 0 := by omega
  have g3 : ¬ n < p := by omega
  go_enter Try.func21, Try.ntmps21
  go_wp2_with fail
  refine (may_any _ _ _).mono ?_; rintro e w1 ⟨rfl, hb⟩
  obtain ⟨H, hz0, hz1, hz2⟩ := below3 hb
  obtain ⟨hc, hf⟩ := bcell hb
  clear hb
  go_wp2_with fail
  refine (may_any _ _ _).mono ?_; rintro e w2 ⟨rfl, hb⟩
  have hz3 := Nat.lt_of_lt_of_le hz2 hb.size
  replace H := bnext H (Nat.le_refl _) hb
  obtain ⟨hc2, hf2⟩ := bcell hb
  clear hb
  go_wp2_with fail
  refine (moved_any _ _ _ _ _ _ _ (by omega) (by omega) (by omega) (by omega) (by omega) (by omega) (by omega)).mono ?_; rintro e w4 ⟨rfl, hb⟩
  replace H := bnext H (Nat.le_refl _) hb
  obtain ⟨hc4, hf4⟩ := bcell hb
  clear hb
  go_wp2_with fail
  exact bodyPost_ret (v := .agg #[.int .i32 _, .int .i32 _]) (by simp [results, Try.results21, go_sem, hc, hc2, hc4, hz2, hz3]) rfl ⟨rfl, (H.setCell (by simp; omega) _).setCell (by simp; omega) _⟩
theorem far_known : farI 0 0 768 1024 = 1280 := by
  unfold farI dist
  rw [show (mayB 0 0 && mayB 768 1024) = true by decide, if_pos rfl]
  exact rt_eq ⟨by decide, by decide, by decide⟩
theorem root_known : rt 99 = 9 := rt_eq ⟨by decide, by decide, by decide⟩
set_option maxRecDepth 100000 in
theorem wakes_true (w : World) : Calls Try.prog 23 #[] w fun e w' => e = .returned (.bool true) ∧ Below w.heap.size w w' := by
  have k1 := far_known
  have k3 := root_known
  have hk1 := Lib.hid k1
  have hk3 := Lib.hid k3
  clear k1 k3
  go_enter Try.func23, Try.ntmps23
  go_wp2_with fail
  refine (toward_on 0 0 768 1024 256 (by decide) (by decide) (by omega) (by rw [hk1.out]; omega) _).mono ?_; rintro e w1 ⟨rfl, hb⟩
  rw [hk1.out, show partI 0 768 256 1280 = 153 from rfl, show partI 0 1024 256 1280 = 204 from rfl]
  obtain ⟨H, hz0, hz1⟩ := below2 hb
  obtain ⟨hc, hf⟩ := bcell hb
  clear hb
  go_wp2_with fail
  refine (middle_in 1 0 (by omega) (by omega) _).mono ?_; rintro e w2 ⟨rfl, hb⟩
  obtain ⟨H, hy⟩ := below1 H (Nat.le_refl _) hb
  obtain ⟨hc2, hf2⟩ := bcell hb
  have hy0 := Nat.lt_trans hz0 hy
  have hy1 := Nat.lt_trans hz1 hy
  clear hb
  go_wp2_with fail
  refine (far_any _ _ _ _ _).mono ?_; rintro e w3 ⟨rfl, hb⟩
  rw [hk1.out]
  have hx := Nat.lt_of_lt_of_le hy hb.size
  have hx0 := Nat.lt_of_lt_of_le hy0 hb.size
  have hx1 := Nat.lt_of_lt_of_le hy1 hb.size
  replace H := bnext H (Nat.le_refl _) hb
  obtain ⟨hc3, hf3⟩ := bcell hb
  clear hb
  go_wp2_with fail
  refine (between_in 0 0 768 1024 1 2 (by decide) (by decide) (by omega) _).mono ?_; rintro e w4 ⟨rfl, hb⟩
  rw [show partI 0 768 1 2 = 384 from rfl, show partI 0 1024 1 2 = 512 from rfl]
  replace H := bnext H (Nat.le_refl _) hb
  clear hb
  go_wp2_with fail
  refine (root_any 99 (by omega) _).mono ?_; rintro e w5 ⟨rfl, rfl⟩
  rw [hk3.out]
  go_wp2_with fail
  go_ret
  exact ⟨rfl, H⟩
end Go.Proofs.Ytfdbibddhneklab
