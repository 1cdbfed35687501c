/- The walks of the document's answers: Far, part, Moved, Toward. No condition. -/
import Derived.Test.YtfdbibddhneklabF5
import Derived.Deep.RegionHeld3
import Derived.IntWalk
namespace Go.Proofs.Ytfdbibddhneklab
open Go.RowKit RootP
set_option maxRecDepth 100000 in
theorem farR_any (a b c d : Int) (w : World) : Calls Try.prog 18 #[.agg #[.int .i64 a, .int .i64 b], .agg #[.int .i64 c, .int .i64 d]] w fun e w' => e = .returned (.int .i64 (farI a b c d)) ∧ Below w.heap.size w w' := by
  cases h1 : mayB a b
  · have e := Lib.hid (show farI a b c d = 0 by unfold farI; rw [h1]; rfl)
    go_enter Try.func18, Try.ntmps18
    go_wp2_with (go_at_call 19; refine (mayR_any _ _ _).mono ?_; rintro e w' ⟨rfl, hb⟩)
    go_ret
    exact ⟨by rw [e.out]; rfl, (below2 hb).1⟩
  · cases h2 : mayB c d
    · have e := Lib.hid (show farI a b c d = 0 by unfold farI; rw [h1, h2]; rfl)
      go_enter Try.func18, Try.ntmps18
      go_wp2_with fail
      refine (mayR_any _ _ _).mono ?_; rintro e w1 ⟨rfl, hb⟩
      obtain ⟨H, hz0, hz1⟩ := below2 hb
      obtain ⟨hc, hf⟩ := bcell hb
      clear hb
      go_wp2_with fail
      refine (mayR_any _ _ _).mono ?_; rintro e w2 ⟨rfl, hb⟩
      replace H := bnext H (Nat.le_refl _) hb
      go_wp2_with fail
      go_ret
      exact ⟨by rw [e.out]; rfl, H⟩
    · have hd := dist_bound a b c d h1 h2
      have e := Lib.hid (show farI a b c d = dist a b c d by unfold farI; rw [h1, h2]; rfl)
      have hm1 := mayB_true.1 h1
      have hm2 := mayB_true.1 h2
      have hs3 := sq_bound (x := c - a) (by omega)
      have hs4 := sq_bound (x := d - b) (by omega)
      obtain ⟨hd1, hd2⟩ := hd
      have hr := hd2
      unfold dist at hr
      go_enter Try.func18, Try.ntmps18
      go_wp2_with fail
      refine (mayR_any _ _ _).mono ?_; rintro e w1 ⟨rfl, hb⟩
      obtain ⟨H, hz0, hz1⟩ := below2 hb
      obtain ⟨hc, hf⟩ := bcell hb
      clear hb
      go_wp2_with fail
      refine (mayR_any _ _ _).mono ?_; rintro e w2 ⟨rfl, hb⟩
      replace H := bnext H (Nat.le_refl _) hb
      obtain ⟨hc2, hf2⟩ := bcell hb
      clear hb
      go_wp2_with fail
      go_quiet (fail)
      go_wp2_with fail
      refine (rootR_any _ (by omega) _).mono ?_; rintro e w3 ⟨rfl, rfl⟩
      go_wp2_with fail
      go_ret
      exact ⟨by rw [e.out]; rfl, bdrewN H _⟩
theorem partR_any (n p q : Int) (hn : -2097152 ≤ n ∧ n ≤ 2097152) (hp : 0 ≤ p ∧ p ≤ 1048576) (hq : 1 ≤ q ∧ q ≤ 4194304) (w : World) : Calls Try.prog 46 #[.int .i64 n, .int .i64 p, .int .i64 q] w fun e w' => e = .returned (.int .i64 ((n * p).tdiv q)) ∧ w = w' := by
  have hb : -2199023255552 ≤ n * p ∧ n * p ≤ 2199023255552 := by
    rcases Int.le_total 0 n with h | h
    · have h1 := Int.mul_le_mul hn.2 hp.2 hp.1 (by omega)
      have h2 := Int.mul_nonneg h hp.1
      omega
    · have h1 := Int.mul_le_mul (show -n ≤ 2097152 by omega) hp.2 hp.1 (by omega)
      have h2 := Int.mul_nonneg (show 0 ≤ -n by omega) hp.1
      rw [Int.neg_mul] at h1 h2
      omega
  have hq0 : ¬ q = 0 := by omega
  have hq1 : ¬ q = -1 := by omega
  by_cases h : n < 0
  · have h1 : -n * p = -(n * p) := Int.neg_mul _ _
    have h2 : 0 ≤ -n * p := Int.mul_nonneg (by omega) hp.1
    have h3 : 0 ≤ (-n * p) / q ∧ (-n * p) / q ≤ -n * p := ⟨Int.ediv_nonneg h2 (by omega), Int.ediv_le_self _ h2⟩
    have h4 : (n * p).tdiv q = -((-n * p) / q) := by rw [h1, ← Int.tdiv_eq_ediv_of_nonneg (by omega), Int.neg_tdiv]; omega
    have h40 := Lib.hid h4
    have h5 : -n * p ≤ 2199023255552 := by omega
    have h6 : (-n * p).tdiv q = (-n * p) / q := Int.tdiv_eq_ediv_of_nonneg h2
    clear h4 hb h1
    generalize hm : -n * p = m at *
    generalize hk : m / q = k at *
    go_enter Try.func46, Try.ntmps46
    go_wp2
    go_ret
    exact ⟨by rw [h40.out]; first | rfl | simp [hm, h6, hk], rfl⟩
  · have h2 : 0 ≤ n * p := Int.mul_nonneg (by omega) hp.1
    have h3 : 0 ≤ (n * p) / q ∧ (n * p) / q ≤ n * p := ⟨Int.ediv_nonneg h2 (by omega), Int.ediv_le_self _ h2⟩
    have h6 : (n * p).tdiv q = (n * p) / q := Int.tdiv_eq_ediv_of_nonneg h2
    rw [h6]
    go_enter Try.func46, Try.ntmps46
    go_wp2
    go_ret
    exact ⟨by first | rfl | simp [h6], rfl⟩
set_option maxHeartbeats 1000000 in
set_option maxRecDepth 100000 in
theorem movedR_any (a b c d part all : Int) (w : World) (ha : -1048576 ≤ a ∧ a ≤ 1048576) (hb : -1048576 ≤ b ∧ b ≤ 1048576) (hc : -1048576 ≤ c ∧ c ≤ 1048576) (hd : -1048576 ≤ d ∧ d ≤ 1048576) (hp : 0 ≤ part ∧ part ≤ all) (hpm : part ≤ 1048576) (hl : 1 ≤ all ∧ all ≤ 4194304) :
    Calls Try.prog 20 #[.agg #[.int .i64 a, .int .i64 b], .agg #[.int .i64 c, .int .i64 d], .int .i64 part, .int .i64 all] w fun e w' => e = .returned (.agg #[.int .i64 (partI a c part all), .int .i64 (partI b d part all)]) ∧ Below w.heap.size w w' := by
  have r1 := tdiv_part (c - a) part all hp hl.1
  have r2 := tdiv_part (d - b) part all hp hl.1
  have q1 : -2097152 ≤ ((c - a) * part).tdiv all ∧ ((c - a) * part).tdiv all ≤ 2097152 := by omega
  have q2 : -2097152 ≤ ((d - b) * part).tdiv all ∧ ((d - b) * part).tdiv all ≤ 2097152 := by omega
  clear r1 r2
  have c1 := fun w => partR_any (c - a) part all (by omega) (by omega) hl w
  have c2 := fun w => partR_any (d - b) part all (by omega) (by omega) hl w
  unfold partI
  generalize ((c - a) * part).tdiv all = X at *
  generalize ((d - b) * part).tdiv all = Y at *
  have e1 : IntKind.i64.wrap (c - a) = c - a := IntWalk.i64_in _ (by omega)
  have e2 : IntKind.i64.wrap (d - b) = d - b := IntWalk.i64_in _ (by omega)
  have e3 : IntKind.i64.wrap (a + X) = a + X := IntWalk.i64_in _ (by omega)
  have e4 : IntKind.i64.wrap (b + Y) = b + Y := IntWalk.i64_in _ (by omega)
  go_enter Try.func20, Try.ntmps20
  go_wp2
  refine still_tail 23 (by kernel_rfl) (by kernel_rfl) ?_
  simp only [List.take_succ_cons, List.take_zero, List.drop_succ_cons, List.drop_zero]
  repeat still_step
  still_call ((c1 _).mono fun _ _ ⟨he, hw⟩ => ⟨he, hw.symm⟩)
  repeat still_step
  still_call ((c2 _).mono fun _ _ ⟨he, hw⟩ => ⟨he, hw.symm⟩)
  repeat still_step
  refine wpStill_nil ?_
  go_wp2
  exact bodyPost_ret (v := .agg #[.int .i64 (a + X), .int .i64 (b + Y)]) (by simp [results, Try.results20, go_sem]) rfl ⟨rfl, by clear e1 e2 e3 e4; repeat (first | exact Below.refl _ _ | refine Below.drew ?_ | refine Below.alloc ?_ (by simp <;> omega) _)⟩
end Go.Proofs.Ytfdbibddhneklab
