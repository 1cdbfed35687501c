/- The walk of the law RulesHold. No condition. -/
import Derived.Test.YtfdbibddhneklaaDoorU4
namespace Go.Proofs.YtfdbibddhneklaaDoor
open Go.RowKit
set_option maxRecDepth 100000 in
theorem hold_none (k : Nat) (hk : k ≤ 255) (h : isB k = false) (w : World) (ht : RTab w) : Calls Tryd.prog 6 #[.int .u8 (k : Int)] w fun e w' => e = .returned (.bool true) ∧ Below w.heap.size w w' := by
  have T := Lib.hid ht
  clear ht
  have H := Below.refl w.heap.size w
  have h2 := not_isB h
  have c1 := fun W hT => of_any k hk W hT
  rw [kcells_not h, h] at c1
  clear h
  rcases h2 with h2 | h2
  · obtain rfl : k = 0 := by omega
    go_enter Tryd.func6, Tryd.ntmps6
    go_wp2_with fail
    refine (c1 _ T.out).mono ?_; rintro e w1 ⟨rfl, b1⟩
    replace T := Lib.hid (T.out.keep b1)
    replace H := bnext H (Nat.le_refl _) b1
    clear b1 c1
    unfold kcells
    simp only [rr, rowL, boltB, List.getD_cons_zero, List.getD_cons_succ]
    go_wp2_with fail
    have b2 := (Below.refl w1.heap.size w1).alloc (Nat.le_refl _) (.cells #[.int .i64 0, .int .i64 0, .int .i64 0, .int .i64 0, .int .i64 0, .int .i64 0, .int .i64 0, .int .i64 0, .int .i64 0, .int .u8 0, .bool false] 32)
    replace T := Lib.hid (T.out.keep b2)
    replace H := bnext H (Nat.le_refl _) b2
    clear b2
    refine (rwakes _ T.out).mono ?_; rintro e w4 ⟨rfl, b3⟩
    replace H := bnext H (Nat.le_refl _) b3
    clear b3
    go_wp2_with fail
    go_ret
    exact ⟨rfl, H⟩
  · go_enter Tryd.func6, Tryd.ntmps6
    go_wp2_with fail
    refine (c1 _ T.out).mono ?_; rintro e w1 ⟨rfl, b1⟩
    replace T := Lib.hid (T.out.keep b1)
    replace H := bnext H (Nat.le_refl _) b1
    clear b1 c1
    unfold kcells
    simp only [rr, rowL, boltB, List.getD_cons_zero, List.getD_cons_succ]
    go_wp2_with fail
    have b2 := (Below.refl w1.heap.size w1).alloc (Nat.le_refl _) (.cells #[.int .i64 0, .int .i64 0, .int .i64 0, .int .i64 0, .int .i64 0, .int .i64 0, .int .i64 0, .int .i64 0, .int .i64 0, .int .u8 0, .bool false] 32)
    replace T := Lib.hid (T.out.keep b2)
    replace H := bnext H (Nat.le_refl _) b2
    clear b2
    refine (rwakes _ T.out).mono ?_; rintro e w4 ⟨rfl, b3⟩
    replace H := bnext H (Nat.le_refl _) b3
    clear b3
    go_wp2_with fail
    go_ret
    exact ⟨rfl, H⟩
/-- how many of the first kinds make one -/
def cnt (k n : Nat) : Int := if k = 1 then 0 else if rr k 9 < n then 1 else 0
theorem cnt_zero (k : Nat) : cnt k 0 = 0 := by
  unfold cnt
  have := nine_range k
  split
  · rfl
  · rw [if_neg (by omega)]
theorem cnt_step (k n : Nat) (h : isB k = true) : (mk n k = true → cnt k (n + 1) = cnt k n + 1) ∧ (mk n k = false → cnt k (n + 1) = cnt k n) := by
  rw [mk_is n k h]
  unfold cnt
  by_cases h1 : k = 1
  · subst h1
    have e : rr 1 9 = 0 := rfl
    rw [e, if_pos rfl, if_pos rfl]
    refine ⟨fun hh => ?_, fun _ => rfl⟩
    simp at hh
    omega
  · rw [if_neg h1, if_neg h1]
    refine ⟨fun hh => ?_, fun hh => ?_⟩
    · simp at hh
      rw [if_pos (by omega), if_neg (by omega)]; rfl
    · simp at hh
      by_cases e : rr k 9 < (n : Int)
      · rw [if_pos e, if_pos (by omega)]
      · rw [if_neg e, if_neg]
        intro hlt
        have e2 : rr k 9 = (n : Int) := by omega
        by_cases h0 : 0 < n
        · exact hh h0 e2
        · have hk := isB_range h
          have : rr k 9 ≠ 0 := by
            obtain h | h | h | h : k = 2 ∨ k = 3 ∨ k = 4 ∨ k = 5 := by omega
            all_goals subst h; decide
          omega
theorem cnt_all (k : Nat) : cnt k 256 = if k = 1 then 0 else 1 := by
  unfold cnt
  have := nine_range k
  split
  · rfl
  · rw [if_pos (by omega)]
set_option maxHeartbeats 1000000 in
set_option maxRecDepth 100000 in
theorem hold_1 (w : World) (ht : RTab w) : Calls Tryd.prog 6 #[.int .u8 1] w fun e w' => e = .returned (.bool true) ∧ Below w.heap.size w w' := by
  have T := Lib.hid ht
  clear ht
  have H := Below.refl w.heap.size w
  have c1 := fun W hT => of_any 1 (by omega) W hT
  have c2 := fun m hm W hT => makes_any m 1 hm (by omega) W hT
  rw [show isB 1 = true from rfl] at c1
  have CS := Lib.hid fun n => cnt_step 1 n rfl
  have C3 : Hid (cnt 1 256 = 0) := Lib.hid (by rw [cnt_all]; rfl)
  have C0 := Lib.hid (cnt_zero 1)
  have R1 : Hid (rr 1 1 = 0) := Lib.hid rfl
  go_enter Tryd.func6, Tryd.ntmps6
  go_wp2_with fail
  refine (c1 _ T.out).mono ?_; rintro e w1 ⟨rfl, b1⟩
  replace T := Lib.hid (T.out.keep b1)
  replace H := bnext H (Nat.le_refl _) b1
  clear b1 c1
  have B1 := rbox_new w1 1
  unfold kcells
  simp only [rr, rowL, boltB, List.getD_cons_zero, List.getD_cons_succ]
  go_wp2_with fail
  have b2 := (Below.refl w1.heap.size w1).alloc (Nat.le_refl _) (.cells #[.int .i64 60, .int .i64 0, .int .i64 0, .int .i64 0, .int .i64 0, .int .i64 100, .int .i64 30, .int .i64 5, .int .i64 0, .int .u8 0, .bool false] 32)
  replace B1 : Rbox (w1.alloc (.cells #[.int .i64 60, .int .i64 0, .int .i64 0, .int .i64 0, .int .i64 0, .int .i64 100, .int .i64 30, .int .i64 5, .int .i64 0, .int .u8 0, .bool false] 32)) w1.heap.size 1 := B1
  replace T := Lib.hid (T.out.keep b2)
  replace H := bnext H (Nat.le_refl _) b2
  clear b2
  generalize w1.alloc (.cells #[.int .i64 60, .int .i64 0, .int .i64 0, .int .i64 0, .int .i64 0, .int .i64 100, .int .i64 30, .int .i64 5, .int .i64 0, .int .u8 0, .bool false] 32) = w3 at *
  generalize w1.heap.size = g0 at *
  go_loopw [5, 6] (fun c i wr => ∃ j : Nat, j ≤ 256 ∧ i = .int .i64 j ∧ c = .int .i64 (cnt 1 j) ∧ Rbox wr g0 1 ∧ RTab wr ∧ Below w.heap.size w wr) (fun _ i _ => 256 - (intOf i).toNat)
  case atStart => exact ⟨0, by omega, rfl, by rw [C0.out], B1, T.out, H⟩
  case round =>
    clear B1 T H
    obtain ⟨j, hj, rfl, rfl, B1, T, H⟩ := hrel
    by_cases hlt : j < 256
    · have e : ((j : Int) % 256) = (j : Int) := by omega
      have MB := Lib.hid B1; have MT := Lib.hid T
      have hcb : 0 ≤ cnt 1 j ∧ cnt 1 j ≤ 1 := by
        unfold cnt
        split
        · omega
        · split <;> omega
      have hc2 := fun W hT => c2 j (by omega) W hT
      obtain ⟨s1, s2⟩ := CS.out j
      cases hm : mk j 1
      · rw [hm] at hc2
        have S2 := Lib.hid (s2 hm)
        clear s1 s2 hm B1 T c2
        go_wp2_with fail
        refine (hc2 _ MT.out).mono ?_; rintro e w4 ⟨rfl, b4⟩
        go_wp2_with fail
        exact ⟨⟨j + 1, by omega, by go_num, by rw [S2.out], MB.out.keep b4, MT.out.keep b4, bnext H (Nat.le_refl _) b4⟩, by simp [intOf]; omega⟩
      · rw [hm] at hc2
        have S2 := Lib.hid (s1 hm)
        clear s1 s2 hm B1 T c2
        go_wp2_with fail
        refine (hc2 _ MT.out).mono ?_; rintro e w4 ⟨rfl, b4⟩
        go_wp2_with fail
        exact ⟨⟨j + 1, by omega, by go_num, by rw [S2.out], MB.out.keep b4, MT.out.keep b4, bnext H (Nat.le_refl _) b4⟩, by simp [intOf]; omega⟩
    · have hj2 : j = 256 := by omega
      subst hj2
      rw [C3.out]
      have q0 := B1 0 (by omega); have q1 := B1 1 (by omega); have q2 := B1 2 (by omega); have q3 := B1 3 (by omega); have q4 := B1 4 (by omega); have q5 := B1 5 (by omega); have q6 := B1 6 (by omega); have q7 := B1 7 (by omega); have q8 := B1 8 (by omega); have q9 := B1 9 (by omega); have q10 := B1 10 (by omega)
      simp [kcells, rr, rowL, boltB] at q0 q1 q2 q3 q4 q5 q6 q7 q8 q9 q10
      have hlt2 := B1.lt
      have MT := Lib.hid T
      clear B1 T c2 hj hlt
      go_wp2_with fail
      have rq0 := fun D O => cell_regrown q0 D O; have rq1 := fun D O => cell_regrown q1 D O; have rq2 := fun D O => cell_regrown q2 D O; have rq3 := fun D O => cell_regrown q3 D O; have rq4 := fun D O => cell_regrown q4 D O; have rq5 := fun D O => cell_regrown q5 D O; have rq6 := fun D O => cell_regrown q6 D O; have rq7 := fun D O => cell_regrown q7 D O; have rq8 := fun D O => cell_regrown q8 D O; have rq9 := fun D O => cell_regrown q9 D O; have rq10 := fun D O => cell_regrown q10 D O
      have cb := fun W => building_any 1 W
      rw [R1.out, show (.agg (kcells 1) : Value) = .agg #[.int .i64 60, .int .i64 0, .int .i64 0, .int .i64 0, .int .i64 0, .int .i64 100, .int .i64 30, .int .i64 5, .int .i64 0, .int .u8 0, .bool false] from rfl] at cb
      refine wp_region_quiet_below (by kernel_rfl) (by kernel_rfl) ?_
      repeat (go_big_quiet_step (first | (go_at_call 15; exact Calls.regrown_of (cb _)) | (go_at_call 14; exact Calls.regrown_of (rwakes _ (MT.out.keep (below_regrown _ _ _))))))
      refine wpQuiet_nil ?_
      intro _ hw'
      obtain ⟨⟨dq, osq⟩, hw''⟩ := hw'
      subst hw''
      go_wp2_with fail
      go_ret
      exact ⟨rfl, bnext H (Nat.le_refl _) (below_regrown _ _ _)⟩
set_option maxHeartbeats 1000000 in
set_option maxRecDepth 100000 in
theorem hold_2 (w : World) (ht : RTab w) : Calls Tryd.prog 6 #[.int .u8 2] w fun e w' => e = .returned (.bool true) ∧ Below w.heap.size w w' := by
  have T := Lib.hid ht
  clear ht
  have H := Below.refl w.heap.size w
  have c1 := fun W hT => of_any 2 (by omega) W hT
  have c2 := fun m hm W hT => makes_any m 2 hm (by omega) W hT
  rw [show isB 2 = true from rfl] at c1
  have CS := Lib.hid fun n => cnt_step 2 n rfl
  have C3 : Hid (cnt 2 256 = 1) := Lib.hid (by rw [cnt_all]; rfl)
  have C0 := Lib.hid (cnt_zero 2)
  have R1 : Hid (rr 2 1 = 3) := Lib.hid rfl
  go_enter Tryd.func6, Tryd.ntmps6
  go_wp2_with fail
  refine (c1 _ T.out).mono ?_; rintro e w1 ⟨rfl, b1⟩
  replace T := Lib.hid (T.out.keep b1)
  replace H := bnext H (Nat.le_refl _) b1
  clear b1 c1
  have B1 := rbox_new w1 2
  unfold kcells
  simp only [rr, rowL, boltB, List.getD_cons_zero, List.getD_cons_succ]
  go_wp2_with fail
  have b2 := (Below.refl w1.heap.size w1).alloc (Nat.le_refl _) (.cells #[.int .i64 10, .int .i64 3, .int .i64 1, .int .i64 1, .int .i64 4, .int .i64 10, .int .i64 6, .int .i64 3, .int .i64 0, .int .u8 1, .bool false] 32)
  replace B1 : Rbox (w1.alloc (.cells #[.int .i64 10, .int .i64 3, .int .i64 1, .int .i64 1, .int .i64 4, .int .i64 10, .int .i64 6, .int .i64 3, .int .i64 0, .int .u8 1, .bool false] 32)) w1.heap.size 2 := B1
  replace T := Lib.hid (T.out.keep b2)
  replace H := bnext H (Nat.le_refl _) b2
  clear b2
  generalize w1.alloc (.cells #[.int .i64 10, .int .i64 3, .int .i64 1, .int .i64 1, .int .i64 4, .int .i64 10, .int .i64 6, .int .i64 3, .int .i64 0, .int .u8 1, .bool false] 32) = w3 at *
  generalize w1.heap.size = g0 at *
  go_loopw [5, 6] (fun c i wr => ∃ j : Nat, j ≤ 256 ∧ i = .int .i64 j ∧ c = .int .i64 (cnt 2 j) ∧ Rbox wr g0 2 ∧ RTab wr ∧ Below w.heap.size w wr) (fun _ i _ => 256 - (intOf i).toNat)
  case atStart => exact ⟨0, by omega, rfl, by rw [C0.out], B1, T.out, H⟩
  case round =>
    clear B1 T H
    obtain ⟨j, hj, rfl, rfl, B1, T, H⟩ := hrel
    by_cases hlt : j < 256
    · have e : ((j : Int) % 256) = (j : Int) := by omega
      have MB := Lib.hid B1; have MT := Lib.hid T
      have hcb : 0 ≤ cnt 2 j ∧ cnt 2 j ≤ 1 := by
        unfold cnt
        split
        · omega
        · split <;> omega
      have hc2 := fun W hT => c2 j (by omega) W hT
      obtain ⟨s1, s2⟩ := CS.out j
      cases hm : mk j 2
      · rw [hm] at hc2
        have S2 := Lib.hid (s2 hm)
        clear s1 s2 hm B1 T c2
        go_wp2_with fail
        refine (hc2 _ MT.out).mono ?_; rintro e w4 ⟨rfl, b4⟩
        go_wp2_with fail
        exact ⟨⟨j + 1, by omega, by go_num, by rw [S2.out], MB.out.keep b4, MT.out.keep b4, bnext H (Nat.le_refl _) b4⟩, by simp [intOf]; omega⟩
      · rw [hm] at hc2
        have S2 := Lib.hid (s1 hm)
        clear s1 s2 hm B1 T c2
        go_wp2_with fail
        refine (hc2 _ MT.out).mono ?_; rintro e w4 ⟨rfl, b4⟩
        go_wp2_with fail
        exact ⟨⟨j + 1, by omega, by go_num, by rw [S2.out], MB.out.keep b4, MT.out.keep b4, bnext H (Nat.le_refl _) b4⟩, by simp [intOf]; omega⟩
    · have hj2 : j = 256 := by omega
      subst hj2
      rw [C3.out]
      have q0 := B1 0 (by omega); have q1 := B1 1 (by omega); have q2 := B1 2 (by omega); have q3 := B1 3 (by omega); have q4 := B1 4 (by omega); have q5 := B1 5 (by omega); have q6 := B1 6 (by omega); have q7 := B1 7 (by omega); have q8 := B1 8 (by omega); have q9 := B1 9 (by omega); have q10 := B1 10 (by omega)
      simp [kcells, rr, rowL, boltB] at q0 q1 q2 q3 q4 q5 q6 q7 q8 q9 q10
      have hlt2 := B1.lt
      have MT := Lib.hid T
      clear B1 T c2 hj hlt
      go_wp2_with fail
      have rq0 := fun D O => cell_regrown q0 D O; have rq1 := fun D O => cell_regrown q1 D O; have rq2 := fun D O => cell_regrown q2 D O; have rq3 := fun D O => cell_regrown q3 D O; have rq4 := fun D O => cell_regrown q4 D O; have rq5 := fun D O => cell_regrown q5 D O; have rq6 := fun D O => cell_regrown q6 D O; have rq7 := fun D O => cell_regrown q7 D O; have rq8 := fun D O => cell_regrown q8 D O; have rq9 := fun D O => cell_regrown q9 D O; have rq10 := fun D O => cell_regrown q10 D O
      have cb := fun W => building_any 2 W
      rw [R1.out, show (.agg (kcells 2) : Value) = .agg #[.int .i64 10, .int .i64 3, .int .i64 1, .int .i64 1, .int .i64 4, .int .i64 10, .int .i64 6, .int .i64 3, .int .i64 0, .int .u8 1, .bool false] from rfl] at cb
      refine wp_region_quiet_below (by kernel_rfl) (by kernel_rfl) ?_
      repeat (go_big_quiet_step (first | (go_at_call 15; exact Calls.regrown_of (cb _)) | (go_at_call 14; exact Calls.regrown_of (rwakes _ (MT.out.keep (below_regrown _ _ _))))))
      refine wpQuiet_nil ?_
      intro _ hw'
      obtain ⟨⟨dq, osq⟩, hw''⟩ := hw'
      subst hw''
      go_wp2_with fail
      go_ret
      exact ⟨rfl, bnext H (Nat.le_refl _) (below_regrown _ _ _)⟩
set_option maxHeartbeats 1000000 in
set_option maxRecDepth 100000 in
theorem hold_3 (w : World) (ht : RTab w) : Calls Tryd.prog 6 #[.int .u8 3] w fun e w' => e = .returned (.bool true) ∧ Below w.heap.size w w' := by
  have T := Lib.hid ht
  clear ht
  have H := Below.refl w.heap.size w
  have c1 := fun W hT => of_any 3 (by omega) W hT
  have c2 := fun m hm W hT => makes_any m 3 hm (by omega) W hT
  rw [show isB 3 = true from rfl] at c1
  have CS := Lib.hid fun n => cnt_step 3 n rfl
  have C3 : Hid (cnt 3 256 = 1) := Lib.hid (by rw [cnt_all]; rfl)
  have C0 := Lib.hid (cnt_zero 3)
  have R1 : Hid (rr 3 1 = 2) := Lib.hid rfl
  go_enter Tryd.func6, Tryd.ntmps6
  go_wp2_with fail
  refine (c1 _ T.out).mono ?_; rintro e w1 ⟨rfl, b1⟩
  replace T := Lib.hid (T.out.keep b1)
  replace H := bnext H (Nat.le_refl _) b1
  clear b1 c1
  have B1 := rbox_new w1 3
  unfold kcells
  simp only [rr, rowL, boltB, List.getD_cons_zero, List.getD_cons_succ]
  go_wp2_with fail
  have b2 := (Below.refl w1.heap.size w1).alloc (Nat.le_refl _) (.cells #[.int .i64 20, .int .i64 2, .int .i64 1, .int .i64 4, .int .i64 4, .int .i64 20, .int .i64 8, .int .i64 4, .int .i64 0, .int .u8 5, .bool false] 32)
  replace B1 : Rbox (w1.alloc (.cells #[.int .i64 20, .int .i64 2, .int .i64 1, .int .i64 4, .int .i64 4, .int .i64 20, .int .i64 8, .int .i64 4, .int .i64 0, .int .u8 5, .bool false] 32)) w1.heap.size 3 := B1
  replace T := Lib.hid (T.out.keep b2)
  replace H := bnext H (Nat.le_refl _) b2
  clear b2
  generalize w1.alloc (.cells #[.int .i64 20, .int .i64 2, .int .i64 1, .int .i64 4, .int .i64 4, .int .i64 20, .int .i64 8, .int .i64 4, .int .i64 0, .int .u8 5, .bool false] 32) = w3 at *
  generalize w1.heap.size = g0 at *
  go_loopw [5, 6] (fun c i wr => ∃ j : Nat, j ≤ 256 ∧ i = .int .i64 j ∧ c = .int .i64 (cnt 3 j) ∧ Rbox wr g0 3 ∧ RTab wr ∧ Below w.heap.size w wr) (fun _ i _ => 256 - (intOf i).toNat)
  case atStart => exact ⟨0, by omega, rfl, by rw [C0.out], B1, T.out, H⟩
  case round =>
    clear B1 T H
    obtain ⟨j, hj, rfl, rfl, B1, T, H⟩ := hrel
    by_cases hlt : j < 256
    · have e : ((j : Int) % 256) = (j : Int) := by omega
      have MB := Lib.hid B1; have MT := Lib.hid T
      have hcb : 0 ≤ cnt 3 j ∧ cnt 3 j ≤ 1 := by
        unfold cnt
        split
        · omega
        · split <;> omega
      have hc2 := fun W hT => c2 j (by omega) W hT
      obtain ⟨s1, s2⟩ := CS.out j
      cases hm : mk j 3
      · rw [hm] at hc2
        have S2 := Lib.hid (s2 hm)
        clear s1 s2 hm B1 T c2
        go_wp2_with fail
        refine (hc2 _ MT.out).mono ?_; rintro e w4 ⟨rfl, b4⟩
        go_wp2_with fail
        exact ⟨⟨j + 1, by omega, by go_num, by rw [S2.out], MB.out.keep b4, MT.out.keep b4, bnext H (Nat.le_refl _) b4⟩, by simp [intOf]; omega⟩
      · rw [hm] at hc2
        have S2 := Lib.hid (s1 hm)
        clear s1 s2 hm B1 T c2
        go_wp2_with fail
        refine (hc2 _ MT.out).mono ?_; rintro e w4 ⟨rfl, b4⟩
        go_wp2_with fail
        exact ⟨⟨j + 1, by omega, by go_num, by rw [S2.out], MB.out.keep b4, MT.out.keep b4, bnext H (Nat.le_refl _) b4⟩, by simp [intOf]; omega⟩
    · have hj2 : j = 256 := by omega
      subst hj2
      rw [C3.out]
      have q0 := B1 0 (by omega); have q1 := B1 1 (by omega); have q2 := B1 2 (by omega); have q3 := B1 3 (by omega); have q4 := B1 4 (by omega); have q5 := B1 5 (by omega); have q6 := B1 6 (by omega); have q7 := B1 7 (by omega); have q8 := B1 8 (by omega); have q9 := B1 9 (by omega); have q10 := B1 10 (by omega)
      simp [kcells, rr, rowL, boltB] at q0 q1 q2 q3 q4 q5 q6 q7 q8 q9 q10
      have hlt2 := B1.lt
      have MT := Lib.hid T
      clear B1 T c2 hj hlt
      go_wp2_with fail
      have rq0 := fun D O => cell_regrown q0 D O; have rq1 := fun D O => cell_regrown q1 D O; have rq2 := fun D O => cell_regrown q2 D O; have rq3 := fun D O => cell_regrown q3 D O; have rq4 := fun D O => cell_regrown q4 D O; have rq5 := fun D O => cell_regrown q5 D O; have rq6 := fun D O => cell_regrown q6 D O; have rq7 := fun D O => cell_regrown q7 D O; have rq8 := fun D O => cell_regrown q8 D O; have rq9 := fun D O => cell_regrown q9 D O; have rq10 := fun D O => cell_regrown q10 D O
      have cb := fun W => building_any 3 W
      rw [R1.out, show (.agg (kcells 3) : Value) = .agg #[.int .i64 20, .int .i64 2, .int .i64 1, .int .i64 4, .int .i64 4, .int .i64 20, .int .i64 8, .int .i64 4, .int .i64 0, .int .u8 5, .bool false] from rfl] at cb
      refine wp_region_quiet_below (by kernel_rfl) (by kernel_rfl) ?_
      repeat (go_big_quiet_step (first | (go_at_call 15; exact Calls.regrown_of (cb _)) | (go_at_call 14; exact Calls.regrown_of (rwakes _ (MT.out.keep (below_regrown _ _ _))))))
      refine wpQuiet_nil ?_
      intro _ hw'
      obtain ⟨⟨dq, osq⟩, hw''⟩ := hw'
      subst hw''
      go_wp2_with fail
      go_ret
      exact ⟨rfl, bnext H (Nat.le_refl _) (below_regrown _ _ _)⟩
set_option maxHeartbeats 1000000 in
set_option maxRecDepth 100000 in
theorem hold_4 (w : World) (ht : RTab w) : Calls Tryd.prog 6 #[.int .u8 4] w fun e w' => e = .returned (.bool true) ∧ Below w.heap.size w w' := by
  have T := Lib.hid ht
  clear ht
  have H := Below.refl w.heap.size w
  have c1 := fun W hT => of_any 4 (by omega) W hT
  have c2 := fun m hm W hT => makes_any m 4 hm (by omega) W hT
  rw [show isB 4 = true from rfl] at c1
  have CS := Lib.hid fun n => cnt_step 4 n rfl
  have C3 : Hid (cnt 4 256 = 1) := Lib.hid (by rw [cnt_all]; rfl)
  have C0 := Lib.hid (cnt_zero 4)
  have R1 : Hid (rr 4 1 = 2) := Lib.hid rfl
  go_enter Tryd.func6, Tryd.ntmps6
  go_wp2_with fail
  refine (c1 _ T.out).mono ?_; rintro e w1 ⟨rfl, b1⟩
  replace T := Lib.hid (T.out.keep b1)
  replace H := bnext H (Nat.le_refl _) b1
  clear b1 c1
  have B1 := rbox_new w1 4
  unfold kcells
  simp only [rr, rowL, boltB, List.getD_cons_zero, List.getD_cons_succ]
  go_wp2_with fail
  have b2 := (Below.refl w1.heap.size w1).alloc (Nat.le_refl _) (.cells #[.int .i64 12, .int .i64 2, .int .i64 4, .int .i64 3, .int .i64 6, .int .i64 25, .int .i64 10, .int .i64 5, .int .i64 1, .int .u8 5, .bool true] 32)
  replace B1 : Rbox (w1.alloc (.cells #[.int .i64 12, .int .i64 2, .int .i64 4, .int .i64 3, .int .i64 6, .int .i64 25, .int .i64 10, .int .i64 5, .int .i64 1, .int .u8 5, .bool true] 32)) w1.heap.size 4 := B1
  replace T := Lib.hid (T.out.keep b2)
  replace H := bnext H (Nat.le_refl _) b2
  clear b2
  generalize w1.alloc (.cells #[.int .i64 12, .int .i64 2, .int .i64 4, .int .i64 3, .int .i64 6, .int .i64 25, .int .i64 10, .int .i64 5, .int .i64 1, .int .u8 5, .bool true] 32) = w3 at *
  generalize w1.heap.size = g0 at *
  go_loopw [5, 6] (fun c i wr => ∃ j : Nat, j ≤ 256 ∧ i = .int .i64 j ∧ c = .int .i64 (cnt 4 j) ∧ Rbox wr g0 4 ∧ RTab wr ∧ Below w.heap.size w wr) (fun _ i _ => 256 - (intOf i).toNat)
  case atStart => exact ⟨0, by omega, rfl, by rw [C0.out], B1, T.out, H⟩
  case round =>
    clear B1 T H
    obtain ⟨j, hj, rfl, rfl, B1, T, H⟩ := hrel
    by_cases hlt : j < 256
    · have e : ((j : Int) % 256) = (j : Int) := by omega
      have MB := Lib.hid B1; have MT := Lib.hid T
      have hcb : 0 ≤ cnt 4 j ∧ cnt 4 j ≤ 1 := by
        unfold cnt
        split
        · omega
        · split <;> omega
      have hc2 := fun W hT => c2 j (by omega) W hT
      obtain ⟨s1, s2⟩ := CS.out j
      cases hm : mk j 4
      · rw [hm] at hc2
        have S2 := Lib.hid (s2 hm)
        clear s1 s2 hm B1 T c2
        go_wp2_with fail
        refine (hc2 _ MT.out).mono ?_; rintro e w4 ⟨rfl, b4⟩
        go_wp2_with fail
        exact ⟨⟨j + 1, by omega, by go_num, by rw [S2.out], MB.out.keep b4, MT.out.keep b4, bnext H (Nat.le_refl _) b4⟩, by simp [intOf]; omega⟩
      · rw [hm] at hc2
        have S2 := Lib.hid (s1 hm)
        clear s1 s2 hm B1 T c2
        go_wp2_with fail
        refine (hc2 _ MT.out).mono ?_; rintro e w4 ⟨rfl, b4⟩
        go_wp2_with fail
        exact ⟨⟨j + 1, by omega, by go_num, by rw [S2.out], MB.out.keep b4, MT.out.keep b4, bnext H (Nat.le_refl _) b4⟩, by simp [intOf]; omega⟩
    · have hj2 : j = 256 := by omega
      subst hj2
      rw [C3.out]
      have q0 := B1 0 (by omega); have q1 := B1 1 (by omega); have q2 := B1 2 (by omega); have q3 := B1 3 (by omega); have q4 := B1 4 (by omega); have q5 := B1 5 (by omega); have q6 := B1 6 (by omega); have q7 := B1 7 (by omega); have q8 := B1 8 (by omega); have q9 := B1 9 (by omega); have q10 := B1 10 (by omega)
      simp [kcells, rr, rowL, boltB] at q0 q1 q2 q3 q4 q5 q6 q7 q8 q9 q10
      have hlt2 := B1.lt
      have MT := Lib.hid T
      clear B1 T c2 hj hlt
      go_wp2_with fail
      have rq0 := fun D O => cell_regrown q0 D O; have rq1 := fun D O => cell_regrown q1 D O; have rq2 := fun D O => cell_regrown q2 D O; have rq3 := fun D O => cell_regrown q3 D O; have rq4 := fun D O => cell_regrown q4 D O; have rq5 := fun D O => cell_regrown q5 D O; have rq6 := fun D O => cell_regrown q6 D O; have rq7 := fun D O => cell_regrown q7 D O; have rq8 := fun D O => cell_regrown q8 D O; have rq9 := fun D O => cell_regrown q9 D O; have rq10 := fun D O => cell_regrown q10 D O
      have cb := fun W => building_any 4 W
      rw [R1.out, show (.agg (kcells 4) : Value) = .agg #[.int .i64 12, .int .i64 2, .int .i64 4, .int .i64 3, .int .i64 6, .int .i64 25, .int .i64 10, .int .i64 5, .int .i64 1, .int .u8 5, .bool true] from rfl] at cb
      refine wp_region_quiet_below (by kernel_rfl) (by kernel_rfl) ?_
      repeat (go_big_quiet_step (first | (go_at_call 15; exact Calls.regrown_of (cb _)) | (go_at_call 14; exact Calls.regrown_of (rwakes _ (MT.out.keep (below_regrown _ _ _))))))
      refine wpQuiet_nil ?_
      intro _ hw'
      obtain ⟨⟨dq, osq⟩, hw''⟩ := hw'
      subst hw''
      go_wp2_with fail
      go_ret
      exact ⟨rfl, bnext H (Nat.le_refl _) (below_regrown _ _ _)⟩
set_option maxHeartbeats 1000000 in
set_option maxRecDepth 100000 in
theorem hold_5 (w : World) (ht : RTab w) : Calls Tryd.prog 6 #[.int .u8 5] w fun e w' => e = .returned (.bool true) ∧ Below w.heap.size w w' := by
  have T := Lib.hid ht
  clear ht
  have H := Below.refl w.heap.size w
  have c1 := fun W hT => of_any 5 (by omega) W hT
  have c2 := fun m hm W hT => makes_any m 5 hm (by omega) W hT
  rw [show isB 5 = true from rfl] at c1
  have CS := Lib.hid fun n => cnt_step 5 n rfl
  have C3 : Hid (cnt 5 256 = 1) := Lib.hid (by rw [cnt_all]; rfl)
  have C0 := Lib.hid (cnt_zero 5)
  have R1 : Hid (rr 5 1 = 0) := Lib.hid rfl
  go_enter Tryd.func6, Tryd.ntmps6
  go_wp2_with fail
  refine (c1 _ T.out).mono ?_; rintro e w1 ⟨rfl, b1⟩
  replace T := Lib.hid (T.out.keep b1)
  replace H := bnext H (Nat.le_refl _) b1
  clear b1 c1
  have B1 := rbox_new w1 5
  unfold kcells
  simp only [rr, rowL, boltB, List.getD_cons_zero, List.getD_cons_succ]
  go_wp2_with fail
  have b2 := (Below.refl w1.heap.size w1).alloc (Nat.le_refl _) (.cells #[.int .i64 40, .int .i64 0, .int .i64 0, .int .i64 0, .int .i64 0, .int .i64 40, .int .i64 12, .int .i64 3, .int .i64 0, .int .u8 2, .bool false] 32)
  replace B1 : Rbox (w1.alloc (.cells #[.int .i64 40, .int .i64 0, .int .i64 0, .int .i64 0, .int .i64 0, .int .i64 40, .int .i64 12, .int .i64 3, .int .i64 0, .int .u8 2, .bool false] 32)) w1.heap.size 5 := B1
  replace T := Lib.hid (T.out.keep b2)
  replace H := bnext H (Nat.le_refl _) b2
  clear b2
  generalize w1.alloc (.cells #[.int .i64 40, .int .i64 0, .int .i64 0, .int .i64 0, .int .i64 0, .int .i64 40, .int .i64 12, .int .i64 3, .int .i64 0, .int .u8 2, .bool false] 32) = w3 at *
  generalize w1.heap.size = g0 at *
  go_loopw [5, 6] (fun c i wr => ∃ j : Nat, j ≤ 256 ∧ i = .int .i64 j ∧ c = .int .i64 (cnt 5 j) ∧ Rbox wr g0 5 ∧ RTab wr ∧ Below w.heap.size w wr) (fun _ i _ => 256 - (intOf i).toNat)
  case atStart => exact ⟨0, by omega, rfl, by rw [C0.out], B1, T.out, H⟩
  case round =>
    clear B1 T H
    obtain ⟨j, hj, rfl, rfl, B1, T, H⟩ := hrel
    by_cases hlt : j < 256
    · have e : ((j : Int) % 256) = (j : Int) := by omega
      have MB := Lib.hid B1; have MT := Lib.hid T
      have hcb : 0 ≤ cnt 5 j ∧ cnt 5 j ≤ 1 := by
        unfold cnt
        split
        · omega
        · split <;> omega
      have hc2 := fun W hT => c2 j (by omega) W hT
      obtain ⟨s1, s2⟩ := CS.out j
      cases hm : mk j 5
      · rw [hm] at hc2
        have S2 := Lib.hid (s2 hm)
        clear s1 s2 hm B1 T c2
        go_wp2_with fail
        refine (hc2 _ MT.out).mono ?_; rintro e w4 ⟨rfl, b4⟩
        go_wp2_with fail
        exact ⟨⟨j + 1, by omega, by go_num, by rw [S2.out], MB.out.keep b4, MT.out.keep b4, bnext H (Nat.le_refl _) b4⟩, by simp [intOf]; omega⟩
      · rw [hm] at hc2
        have S2 := Lib.hid (s1 hm)
        clear s1 s2 hm B1 T c2
        go_wp2_with fail
        refine (hc2 _ MT.out).mono ?_; rintro e w4 ⟨rfl, b4⟩
        go_wp2_with fail
        exact ⟨⟨j + 1, by omega, by go_num, by rw [S2.out], MB.out.keep b4, MT.out.keep b4, bnext H (Nat.le_refl _) b4⟩, by simp [intOf]; omega⟩
    · have hj2 : j = 256 := by omega
      subst hj2
      rw [C3.out]
      have q0 := B1 0 (by omega); have q1 := B1 1 (by omega); have q2 := B1 2 (by omega); have q3 := B1 3 (by omega); have q4 := B1 4 (by omega); have q5 := B1 5 (by omega); have q6 := B1 6 (by omega); have q7 := B1 7 (by omega); have q8 := B1 8 (by omega); have q9 := B1 9 (by omega); have q10 := B1 10 (by omega)
      simp [kcells, rr, rowL, boltB] at q0 q1 q2 q3 q4 q5 q6 q7 q8 q9 q10
      have hlt2 := B1.lt
      have MT := Lib.hid T
      clear B1 T c2 hj hlt
      go_wp2_with fail
      have rq0 := fun D O => cell_regrown q0 D O; have rq1 := fun D O => cell_regrown q1 D O; have rq2 := fun D O => cell_regrown q2 D O; have rq3 := fun D O => cell_regrown q3 D O; have rq4 := fun D O => cell_regrown q4 D O; have rq5 := fun D O => cell_regrown q5 D O; have rq6 := fun D O => cell_regrown q6 D O; have rq7 := fun D O => cell_regrown q7 D O; have rq8 := fun D O => cell_regrown q8 D O; have rq9 := fun D O => cell_regrown q9 D O; have rq10 := fun D O => cell_regrown q10 D O
      have cb := fun W => building_any 5 W
      rw [R1.out, show (.agg (kcells 5) : Value) = .agg #[.int .i64 40, .int .i64 0, .int .i64 0, .int .i64 0, .int .i64 0, .int .i64 40, .int .i64 12, .int .i64 3, .int .i64 0, .int .u8 2, .bool false] from rfl] at cb
      refine wp_region_quiet_below (by kernel_rfl) (by kernel_rfl) ?_
      repeat (go_big_quiet_step (first | (go_at_call 15; exact Calls.regrown_of (cb _)) | (go_at_call 14; exact Calls.regrown_of (rwakes _ (MT.out.keep (below_regrown _ _ _))))))
      refine wpQuiet_nil ?_
      intro _ hw'
      obtain ⟨⟨dq, osq⟩, hw''⟩ := hw'
      subst hw''
      go_wp2_with fail
      go_ret
      exact ⟨rfl, bnext H (Nat.le_refl _) (below_regrown _ _ _)⟩
theorem hold_any (k : Nat) (hk : k ≤ 255) (w : World) (ht : RTab w) : Calls Tryd.prog 6 #[.int .u8 (k : Int)] w fun e w' => e = .returned (.bool true) ∧ Below w.heap.size w w' := by
  cases h : isB k
  · exact hold_none k hk h w ht
  · obtain h | h | h | h | h : k = 1 ∨ k = 2 ∨ k = 3 ∨ k = 4 ∨ k = 5 := by have := isB_range h; omega
    all_goals subst h
    · exact hold_1 w ht
    · exact hold_2 w ht
    · exact hold_3 w ht
    · exact hold_4 w ht
    · exact hold_5 w ht
end Go.Proofs.YtfdbibddhneklaaDoor
