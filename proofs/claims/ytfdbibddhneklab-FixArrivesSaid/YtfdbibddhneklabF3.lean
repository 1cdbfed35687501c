/- The walks of fix: Far, Toward, Between. No condition. -/
import Derived.Test.YtfdbibddhneklabF2
namespace Go.Proofs.Ytfdbibddhneklab
open Go.RowKit RootP
noncomputable def dist (a b c d : Int) : Int := rt ((c - a) * (c - a) + (d - b) * (d - b))
noncomputable def farI (a b c d : Int) : Int := if (mayB a b && mayB c d) = true then dist a b c d else 0
theorem sq_bound {x : Int} (h : -2097152 ≤ x ∧ x ≤ 2097152) : 0 ≤ x * x ∧ x * x ≤ 4398046511104 := by
  rcases Int.le_total 0 x with h0 | h0
  · have := Int.mul_le_mul h.2 h.2 h0 (by omega)
    exact ⟨Int.mul_nonneg h0 h0, by omega⟩
  · have h1 : 0 ≤ -x := by omega
    have := Int.mul_le_mul (show -x ≤ 2097152 by omega) (show -x ≤ 2097152 by omega) h1 (by omega)
    rw [Int.neg_mul_neg] at this
    exact ⟨Int.mul_nonneg_of_nonpos_of_nonpos h0 h0, by omega⟩
theorem rt_bound {n : Int} (h : 0 ≤ n ∧ n ≤ 8796093022208) : 0 ≤ rt n ∧ rt n ≤ 4194304 := by
  have h1 := rt_is n h.1
  refine ⟨h1.1, ?_⟩
  by_cases g : rt n ≤ 4194304
  · exact g
  exfalso
  have h2 : (4194305 : Int) ≤ rt n := by omega
  have := Int.mul_le_mul h2 h2 (by omega) h1.1
  have := h1.2.1
  omega
theorem dist_bound (a b c d : Int) (h1 : mayB a b = true) (h2 : mayB c d = true) : (0 ≤ (c - a) * (c - a) + (d - b) * (d - b) ∧ (c - a) * (c - a) + (d - b) * (d - b) ≤ 8796093022208) ∧ 0 ≤ dist a b c d ∧ dist a b c d ≤ 4194304 := by
  rw [mayB_true] at h1 h2
  have h3 := sq_bound (x := c - a) (by omega)
  have h4 := sq_bound (x := d - b) (by omega)
  have h5 : 0 ≤ (c - a) * (c - a) + (d - b) * (d - b) ∧ (c - a) * (c - a) + (d - b) * (d - b) ≤ 8796093022208 := by omega
  exact ⟨h5, rt_bound h5⟩
set_option maxRecDepth 100000 in
theorem far_any (a b c d : Int) (w : World) : Calls Try.prog 17 #[.agg #[.int .i32 a, .int .i32 b], .agg #[.int .i32 c, .int .i32 d]] w fun e w' => e = .returned (.int .i32 (farI a b c d)) ∧ Below w.heap.size w w' := by
  cases h1 : mayB a b
  · have e := Lib.hid (show farI a b c d = 0 by unfold farI; rw [h1]; rfl)
    go_enter Try.func17, Try.ntmps17
    go_wp2_with (go_at_call 43; refine (may_any _ _ _).mono ?_; rintro e w' ⟨rfl, hb⟩)
    go_ret
    exact ⟨by rw [e.out]; rfl, (below2 hb).1⟩
  · cases h2 : mayB c d
    · have e := Lib.hid (show farI a b c d = 0 by unfold farI; rw [h1, h2]; rfl)
      go_enter Try.func17, Try.ntmps17
      go_wp2_with fail
      refine (may_any _ _ _).mono ?_; rintro e w1 ⟨rfl, hb⟩
      obtain ⟨H, hz0, hz1⟩ := below2 hb
      obtain ⟨hc, hf⟩ := bcell hb
      clear hb
      go_wp2_with fail
      refine (may_any _ _ _).mono ?_; rintro e w2 ⟨rfl, hb⟩
      replace H := bnext H (Nat.le_refl _) hb
      go_wp2_with fail
      go_ret
      exact ⟨by rw [e.out]; rfl, H⟩
    · have hd := dist_bound a b c d h1 h2
      have e := Lib.hid (show farI a b c d = dist a b c d by unfold farI; rw [h1, h2]; rfl)
      have hm1 := mayB_true.1 h1
      have hm2 := mayB_true.1 h2
      have hs3 := sq_bound (x := c - a) (by omega)
      have hs4 := sq_bound (x := d - b) (by omega)
      obtain ⟨hd1, hd2⟩ := hd
      have hr := hd2
      unfold dist at hr
      go_enter Try.func17, Try.ntmps17
      go_wp2_with fail
      refine (may_any _ _ _).mono ?_; rintro e w1 ⟨rfl, hb⟩
      obtain ⟨H, hz0, hz1⟩ := below2 hb
      obtain ⟨hc, hf⟩ := bcell hb
      clear hb
      go_wp2_with fail
      refine (may_any _ _ _).mono ?_; rintro e w2 ⟨rfl, hb⟩
      replace H := bnext H (Nat.le_refl _) hb
      obtain ⟨hc2, hf2⟩ := bcell hb
      clear hb
      go_wp2_with fail
      go_quiet (fail)
      go_wp2_with fail
      refine (root_any _ (by omega) _).mono ?_; rintro e w3 ⟨rfl, rfl⟩
      go_wp2_with fail
      go_ret
      exact ⟨by rw [e.out]; rfl, bdrewN H _⟩
set_option maxRecDepth 100000 in
theorem toward_no (a b c d s : Int) (h : (mayB a b && mayB c d) = false) (w : World) : Calls Try.prog 15 #[.agg #[.int .i32 a, .int .i32 b], .agg #[.int .i32 c, .int .i32 d], .int .i32 s] w fun e w' => e = .returned (.tuple #[.agg #[.int .i32 0, .int .i32 0], .bool false]) ∧ Below w.heap.size w w' := by
  cases h1 : mayB a b
  · clear h
    go_enter Try.func15, Try.ntmps15
    go_wp2_with fail
    refine (may_any _ _ _).mono ?_; rintro e w1 ⟨rfl, hb⟩
    obtain ⟨H, hz0, hz1, hz2⟩ := below3 hb
    obtain ⟨hc, hf⟩ := bcell hb
    clear hb
    go_wp2_with fail
    exact bodyPost_ret (v := .tuple #[.agg #[.int .i32 0, .int .i32 0], .bool false]) (by simp [results, Try.results15, go_sem, hc]) rfl ⟨rfl, (H.setCell (by simp; omega) _).setCell (by simp; omega) _⟩
  · have h2 : mayB c d = false := by rw [h1] at h; simpa using h
    clear h
    go_enter Try.func15, Try.ntmps15
    go_wp2_with fail
    refine (may_any _ _ _).mono ?_; rintro e w1 ⟨rfl, hb⟩
    obtain ⟨H, hz0, hz1, hz2⟩ := below3 hb
    obtain ⟨hc, hf⟩ := bcell hb
    clear hb
    go_wp2_with fail
    refine (may_any _ _ _).mono ?_; rintro e w2 ⟨rfl, hb⟩
    replace H := bnext H (Nat.le_refl _) hb
    obtain ⟨hc2, hf2⟩ := bcell hb
    clear hb
    go_wp2_with fail
    exact bodyPost_ret (v := .tuple #[.agg #[.int .i32 0, .int .i32 0], .bool false]) (by simp [results, Try.results15, go_sem, hc, hc2, hz2]) rfl ⟨rfl, (H.setCell (by simp; omega) _).setCell (by simp; omega) _⟩
theorem toward_bad (a b c d s : Int) (h1 : mayB a b = true) (h2 : mayB c d = true) (hs : s < 1 ∨ 256 < s) (w : World) : Calls Try.prog 15 #[.agg #[.int .i32 a, .int .i32 b], .agg #[.int .i32 c, .int .i32 d], .int .i32 s] w fun e w' => e = .returned (.tuple #[.agg #[.int .i32 a, .int .i32 b], .bool false]) ∧ Below w.heap.size w w' := by
  have hs2 := Lib.hid hs
  clear hs
  by_cases g : s < 1
  all_goals
    have g2 : ¬ s < 1 → 256 < s := fun h => hs2.out.resolve_left h
    try have g3 := g2 g
    clear g2
    go_enter Try.func15, Try.ntmps15
    go_wp2_with fail
    refine (may_any _ _ _).mono ?_; rintro e w1 ⟨rfl, hb⟩
    obtain ⟨H, hz0, hz1, hz2⟩ := below3 hb
    obtain ⟨hc, hf⟩ := bcell hb
    clear hb
    go_wp2_with fail
    refine (may_any _ _ _).mono ?_; rintro e w2 ⟨rfl, hb⟩
    replace H := bnext H (Nat.le_refl _) hb
    obtain ⟨hc2, hf2⟩ := bcell hb
    clear hb
    go_wp2_with fail
    exact bodyPost_ret (v := .tuple #[.agg #[.int .i32 a, .int .i32 b], .bool false]) (by simp [results, Try.results15, go_sem, hc, hc2, hz2]) rfl ⟨rfl, (H.setCell (by simp; omega) _).setCell (by simp; omega) _⟩
set_option maxRecDepth 100000 in
theorem toward_there (a b c d s : Int) (h1 : mayB a b = true) (h2 : mayB c d = true) (hs : 1 ≤ s ∧ s ≤ 256) (hfar : farI a b c d ≤ s) (w : World) : Calls Try.prog 15 #[.agg #[.int .i32 a, .int .i32 b], .agg #[.int .i32 c, .int .i32 d], .int .i32 s] w fun e w' => e = .returned (.tuple #[.agg #[.int .i32 c, .int .i32 d], .bool true]) ∧ Below w.heap.size w w' := by
  have g1 : ¬ s < 1 := by omega
  have g2 : ¬ 256 < s := by omega
  by_cases e1 : a = c
  · obtain rfl : c = a := e1.symm
    by_cases e2 : b = d
    · obtain rfl : d = b := e2.symm
      clear e1 e2
      go_enter Try.func15, Try.ntmps15
      go_wp2_with fail
      refine (may_any _ _ _).mono ?_; rintro e w1 ⟨rfl, hb⟩
      obtain ⟨H, hz0, hz1, hz2⟩ := below3 hb
      obtain ⟨hc, hf⟩ := bcell hb
      clear hb
      go_wp2_with fail
      refine (may_any _ _ _).mono ?_; rintro e w2 ⟨rfl, hb⟩
      have hz3 := Nat.lt_of_lt_of_le hz2 hb.size
      have hz4 := Nat.lt_of_lt_of_le hz1 hb.size
      have hz5 := Nat.lt_of_lt_of_le hz0 hb.size
      replace H := bnext H (Nat.le_refl _) hb
      obtain ⟨hc2, hf2⟩ := bcell hb
      clear hb
      go_wp2_with fail
      refine (far_any _ _ _ _ _).mono ?_; rintro e w3 ⟨rfl, hb⟩
      replace H := bnext H (Nat.le_refl _) hb
      obtain ⟨hc3, hf3⟩ := bcell hb
      clear hb
      go_wp2_with fail
      exact bodyPost_ret (v := .tuple #[.agg #[.int .i32 c, .int .i32 d], .bool true]) (by simp [results, Try.results15, go_sem, hc, hc2, hc3, hz2, hz3]) rfl ⟨rfl, (H.setCell (by simp; omega) _).setCell (by simp; omega) _⟩
    · clear e1
      go_enter Try.func15, Try.ntmps15
      go_wp2_with fail
      refine (may_any _ _ _).mono ?_; rintro e w1 ⟨rfl, hb⟩
      obtain ⟨H, hz0, hz1, hz2⟩ := below3 hb
      obtain ⟨hc, hf⟩ := bcell hb
      clear hb
      go_wp2_with fail
      refine (may_any _ _ _).mono ?_; rintro e w2 ⟨rfl, hb⟩
      have hz3 := Nat.lt_of_lt_of_le hz2 hb.size
      have hz4 := Nat.lt_of_lt_of_le hz1 hb.size
      have hz5 := Nat.lt_of_lt_of_le hz0 hb.size
      replace H := bnext H (Nat.le_refl _) hb
      obtain ⟨hc2, hf2⟩ := bcell hb
      clear hb
      go_wp2_with fail
      refine (far_any _ _ _ _ _).mono ?_; rintro e w3 ⟨rfl, hb⟩
      replace H := bnext H (Nat.le_refl _) hb
      obtain ⟨hc3, hf3⟩ := bcell hb
      clear hb
      go_wp2_with fail
      exact bodyPost_ret (v := .tuple #[.agg #[.int .i32 c, .int .i32 d], .bool true]) (by simp [results, Try.results15, go_sem, hc, hc2, hc3, hz2, hz3]) rfl ⟨rfl, (H.setCell (by simp; omega) _).setCell (by simp; omega) _⟩
  · go_enter Try.func15, Try.ntmps15
    go_wp2_with fail
    refine (may_any _ _ _).mono ?_; rintro e w1 ⟨rfl, hb⟩
    obtain ⟨H, hz0, hz1, hz2⟩ := below3 hb
    obtain ⟨hc, hf⟩ := bcell hb
    clear hb
    go_wp2_with fail
    refine (may_any _ _ _).mono ?_; rintro e w2 ⟨rfl, hb⟩
    have hz3 := Nat.lt_of_lt_of_le hz2 hb.size
    have hz4 := Nat.lt_of_lt_of_le hz1 hb.size
    have hz5 := Nat.lt_of_lt_of_le hz0 hb.size
    replace H := bnext H (Nat.le_refl _) hb
    obtain ⟨hc2, hf2⟩ := bcell hb
    clear hb
    go_wp2_with fail
    refine (far_any _ _ _ _ _).mono ?_; rintro e w3 ⟨rfl, hb⟩
    replace H := bnext H (Nat.le_refl _) hb
    obtain ⟨hc3, hf3⟩ := bcell hb
    clear hb
    go_wp2_with fail
    exact bodyPost_ret (v := .tuple #[.agg #[.int .i32 c, .int .i32 d], .bool true]) (by simp [results, Try.results15, go_sem, hc, hc2, hc3, hz2, hz3]) rfl ⟨rfl, (H.setCell (by simp; omega) _).setCell (by simp; omega) _⟩
theorem far_self (a b : Int) (h : mayB a b = true) : farI a b a b = 0 := by
  unfold farI dist
  rw [h]
  simp
  exact rt_eq ⟨by decide, by decide, by decide⟩
set_option maxRecDepth 100000 in
theorem toward_on (a b c d s : Int) (h1 : mayB a b = true) (h2 : mayB c d = true) (hs : 1 ≤ s ∧ s ≤ 256) (hfar : s < farI a b c d) (w : World) : Calls Try.prog 15 #[.agg #[.int .i32 a, .int .i32 b], .agg #[.int .i32 c, .int .i32 d], .int .i32 s] w fun e w' => e = .returned (.tuple #[.agg #[.int .i32 (partI a c s (farI a b c d)), .int .i32 (partI b d s (farI a b c d))], .bool false]) ∧ Below w.heap.size w w' := by
  have g1 : ¬ s < 1 := by omega
  have g2 : ¬ 256 < s := by omega
  have hd := (dist_bound a b c d h1 h2).2
  have hm1 := mayB_true.1 h1
  have hm2 := mayB_true.1 h2
  have hfd : farI a b c d = dist a b c d := by unfold farI; rw [h1, h2]; rfl
  have hfl : farI a b c d ≤ 4194304 := by omega
  clear hd
  have hne : (a == c) = false ∨ (b == d) = false := by
    by_cases e1 : a = c
    · by_cases e2 : b = d
      · subst e1; subst e2; rw [far_self _ _ h1] at hfar; omega
      · exact .inr (beq_eq_false_iff_ne.2 e2)
    · exact .inl (beq_eq_false_iff_ne.2 e1)
  have hfd2 := Lib.hid hfd
  clear hfd
  by_cases e1 : a = c
  · obtain rfl : c = a := e1.symm
    have e2 : (b == d) = false := by simpa using hne
    have e3 : ¬ b = d := by simpa using e2
    clear hne e1
    go_enter Try.func15, Try.ntmps15
    go_wp2_with fail
    refine (may_any _ _ _).mono ?_; rintro e w1 ⟨rfl, hb⟩
    obtain ⟨H, hz0, hz1, hz2⟩ := below3 hb
    obtain ⟨hc, hf⟩ := bcell hb
    clear hb
    go_wp2_with fail
    refine (may_any _ _ _).mono ?_; rintro e w2 ⟨rfl, hb⟩
    have hz3 := Nat.lt_of_lt_of_le hz2 hb.size
    have hz4 := Nat.lt_of_lt_of_le hz1 hb.size
    have hz5 := Nat.lt_of_lt_of_le hz0 hb.size
    replace H := bnext H (Nat.le_refl _) hb
    obtain ⟨hc2, hf2⟩ := bcell hb
    clear hb
    go_wp2_with fail
    refine (far_any _ _ _ _ _).mono ?_; rintro e w3 ⟨rfl, hb⟩
    have hz6 := Nat.lt_of_lt_of_le hz3 hb.size
    replace H := bnext H (Nat.le_refl _) hb
    obtain ⟨hc3, hf3⟩ := bcell hb
    clear hb
    go_wp2_with fail
    refine (moved_any _ _ _ _ _ _ _ (by omega) (by omega) (by omega) (by omega) (by omega) (by omega) (by omega)).mono ?_; rintro e w4 ⟨rfl, hb⟩
    replace H := bnext H (Nat.le_refl _) hb
    obtain ⟨hc4, hf4⟩ := bcell hb
    clear hb
    go_wp2_with fail
    exact bodyPost_ret (v := .tuple #[.agg #[.int .i32 _, .int .i32 _], .bool false]) (by simp [results, Try.results15, go_sem, hc, hc2, hc3, hc4, hz2, hz3, hz6]) rfl ⟨rfl, (H.setCell (by simp; omega) _).setCell (by simp; omega) _⟩
  · have e2 : (a == c) = false := beq_eq_false_iff_ne.2 e1
    clear hne
    go_enter Try.func15, Try.ntmps15
    go_wp2_with fail
    refine (may_any _ _ _).mono ?_; rintro e w1 ⟨rfl, hb⟩
    obtain ⟨H, hz0, hz1, hz2⟩ := below3 hb
    obtain ⟨hc, hf⟩ := bcell hb
    clear hb
    go_wp2_with fail
    refine (may_any _ _ _).mono ?_; rintro e w2 ⟨rfl, hb⟩
    have hz3 := Nat.lt_of_lt_of_le hz2 hb.size
    have hz4 := Nat.lt_of_lt_of_le hz1 hb.size
    have hz5 := Nat.lt_of_lt_of_le hz0 hb.size
    replace H := bnext H (Nat.le_refl _) hb
    obtain ⟨hc2, hf2⟩ := bcell hb
    clear hb
    go_wp2_with fail
    refine (far_any _ _ _ _ _).mono ?_; rintro e w3 ⟨rfl, hb⟩
    have hz6 := Nat.lt_of_lt_of_le hz3 hb.size
    replace H := bnext H (Nat.le_refl _) hb
    obtain ⟨hc3, hf3⟩ := bcell hb
    clear hb
    go_wp2_with fail
    refine (moved_any _ _ _ _ _ _ _ (by omega) (by omega) (by omega) (by omega) (by omega) (by omega) (by omega)).mono ?_; rintro e w4 ⟨rfl, hb⟩
    replace H := bnext H (Nat.le_refl _) hb
    obtain ⟨hc4, hf4⟩ := bcell hb
    clear hb
    go_wp2_with fail
    exact bodyPost_ret (v := .tuple #[.agg #[.int .i32 _, .int .i32 _], .bool false]) (by simp [results, Try.results15, go_sem, hc, hc2, hc3, hc4, hz2, hz3, hz6]) rfl ⟨rfl, (H.setCell (by simp; omega) _).setCell (by simp; omega) _⟩
end Go.Proofs.Ytfdbibddhneklab
