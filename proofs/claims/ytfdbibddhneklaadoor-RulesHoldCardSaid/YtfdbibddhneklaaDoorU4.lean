/- The walk of the law RulesTell. No condition. -/
import Derived.Test.YtfdbibddhneklaaDoorU3
import Derived.Lib.QuietBelow
namespace Go.Proofs.YtfdbibddhneklaaDoor
open Go.RowKit
theorem kcells_not {k : Nat} (h : isB k = false) : kcells k = kcells 0 := by
  by_cases h6 : 6 ≤ k
  · exact (kc_more k h6).1
  · have := not_isB h
    obtain rfl : k = 0 := by omega
    rfl
theorem mk_not {m k : Nat} (h : isB k = false) : mk m k = false ∧ mk k m = false := by simp [mk, h]
set_option maxRecDepth 100000 in
theorem tell_none (k m : Nat) (hk : k ≤ 255) (hm : m ≤ 255) (h : isB k = false) (w : World) (ht : RTab w) : Calls Tryd.prog 5 #[.int .u8 (k : Int), .int .u8 (m : Int)] w fun e w' => e = .returned (.bool true) ∧ Below w.heap.size w w' := by
  have T := Lib.hid ht
  clear ht
  have H := Below.refl w.heap.size w
  have h2 := not_isB h
  have c1 := fun W hT => of_any k hk W hT
  rw [kcells_not h, h] at c1
  have c2 := fun W hT => makes_any m k hm hk W hT
  rw [(mk_not h).1] at c2
  have c3 := fun W hT => makes_any k m hk hm W hT
  rw [(mk_not h).2] at c3
  clear h
  go_enter Tryd.func5, Tryd.ntmps5
  go_wp2_with fail
  refine (c1 _ T.out).mono ?_; rintro e w1 ⟨rfl, b1⟩
  replace T := Lib.hid (T.out.keep b1)
  replace H := bnext H (Nat.le_refl _) b1
  clear b1
  unfold kcells
  simp only [rr, rowL, boltB, List.getD_cons_zero, List.getD_cons_succ]
  go_wp2_with fail
  have b2 := (Below.refl w1.heap.size w1).alloc (Nat.le_refl _) (.cells #[.int .i64 0, .int .i64 0, .int .i64 0, .int .i64 0, .int .i64 0, .int .i64 0, .int .i64 0, .int .i64 0, .int .i64 0, .int .u8 0, .bool false] 32)
  replace T := Lib.hid (T.out.keep b2)
  replace H := bnext H (Nat.le_refl _) b2
  clear b2
  refine (row_none k (by omega) _).mono ?_; rintro e w2 ⟨rfl, rfl⟩
  go_wp2_with fail
  refine (c2 _ T.out).mono ?_; rintro e w2 ⟨rfl, b3⟩
  replace T := Lib.hid (T.out.keep b3)
  replace H := bnext H (Nat.le_refl _) b3
  clear b3
  go_wp2_with fail
  refine (c3 _ T.out).mono ?_; rintro e w3 ⟨rfl, b3⟩
  replace T := Lib.hid (T.out.keep b3)
  replace H := bnext H (Nat.le_refl _) b3
  clear b3
  go_wp2_with fail
  refine (rwakes _ T.out).mono ?_; rintro e w4 ⟨rfl, b3⟩
  replace H := bnext H (Nat.le_refl _) b3
  clear b3
  go_wp2_with fail
  go_ret
  exact ⟨rfl, H⟩
/-- the last number of the reference's row -/
def bb (k : Nat) : Int := if boltB k then 1 else 0
theorem bb_is (k : Nat) : (bb k == 1) = boltB k := by unfold bb; cases boltB k <;> rfl
theorem ref_at (k : Nat) (h : isB k = true) : (∀ j, j < 10 → (refL k).getD j 0 = rr k j) ∧ (refL k).getD 10 0 = bb k ∧ (refL k).length = 11 := by
  obtain h | h | h | h | h : k = 1 ∨ k = 2 ∨ k = 3 ∨ k = 4 ∨ k = 5 := by have := isB_range h; omega
  all_goals
    subst h
    refine ⟨fun j hj => ?_, rfl, rfl⟩
    obtain h | h | h | h | h | h | h | h | h | h : j = 0 ∨ j = 1 ∨ j = 2 ∨ j = 3 ∨ j = 4 ∨ j = 5 ∨ j = 6 ∨ j = 7 ∨ j = 8 ∨ j = 9 := by omega
    all_goals subst h; rfl
theorem nine_range (k : Nat) : 0 ≤ rr k 9 ∧ rr k 9 ≤ 255 := by
  unfold rr rowL
  split <;> simp
theorem mk_is (m k : Nat) (h : isB k = true) : mk m k = (decide (0 < m) && (rr k 9 == (m : Int))) := by
  unfold mk
  rw [h, Bool.true_and]
  obtain h | h | h | h | h : k = 1 ∨ k = 2 ∨ k = 3 ∨ k = 4 ∨ k = 5 := by have := isB_range h; omega
  all_goals subst h
  · by_cases e : m = 0
    · subst e; rfl
    · have : (rr 1 9 == (m : Int)) = false := by simp [rr, rowL]; omega
      rw [this]; simp
  · by_cases e : m = 1
    · subst e; rfl
    · have : (rr 2 9 == (m : Int)) = false := by simp [rr, rowL]; omega
      rw [this]; simp
  · by_cases e : m = 5
    · subst e; rfl
    · have : (rr 3 9 == (m : Int)) = false := by simp [rr, rowL]; omega
      rw [this]; simp
  · by_cases e : m = 5
    · subst e; rfl
    · have : (rr 4 9 == (m : Int)) = false := by simp [rr, rowL]; omega
      rw [this]; simp
  · by_cases e : m = 2
    · subst e; rfl
    · have : (rr 5 9 == (m : Int)) = false := by simp [rr, rowL]; omega
      rw [this]; simp
/-- ten of a row's numbers, as a list -/
def tenL (k : Nat) : List Int := [rr k 0, rr k 1, rr k 2, rr k 3, rr k 4, rr k 5, rr k 6, rr k 7, rr k 8, rr k 9]
theorem ten_at (k j : Nat) (h : j < 10) : (tenL k).getD j 0 = rr k j := by
  obtain h | h | h | h | h | h | h | h | h | h : j = 0 ∨ j = 1 ∨ j = 2 ∨ j = 3 ∨ j = 4 ∨ j = 5 ∨ j = 6 ∨ j = 7 ∨ j = 8 ∨ j = 9 := by omega
  all_goals subst h; rfl
/-- the box of a row -/
def Rbox (w : World) (g : Nat) (k : Nat) : Prop := ∀ j, j < 11 → w.cell? ⟨g, j, none⟩ = some ((kcells k).getD j undef)
theorem Rbox.keep {w w1 : World} {g k : Nat} (h : Rbox w g k) (hb : Below w.heap.size w w1) : Rbox w1 g k := fun j hj => by
  have hc := h j hj
  exact (hb.cell (World.block_lt_of_cell? w _ hc)).trans hc
theorem rbox_new (w : World) (k : Nat) : Rbox (w.alloc (.cells (kcells k) 32)) w.heap.size k := by
  intro j hj
  have : j < (kcells k).size := hj
  simp [go_sem, this]
theorem Rbox.lt {w : World} {g k : Nat} (h : Rbox w g k) : g < w.heap.size := World.block_lt_of_cell? w _ (h 0 (by omega))
set_option maxHeartbeats 1000000 in
set_option maxRecDepth 100000 in
theorem tell_some (k m : Nat) (hk : k ≤ 255) (hm : m ≤ 255) (h : isB k = true) (w : World) (ht : RTab w) : Calls Tryd.prog 5 #[.int .u8 (k : Int), .int .u8 (m : Int)] w fun e w' => e = .returned (.bool true) ∧ Below w.heap.size w w' := by
  have T := Lib.hid ht
  clear ht
  have H := Below.refl w.heap.size w
  have c1 := fun W hT => of_any k hk W hT
  rw [h] at c1
  have c2 := fun W hT => makes_any m k hm hk W hT
  rw [mk_is m k h] at c2
  have c3 := fun W => row_any k h W
  obtain ⟨r1, r2, r3⟩ := ref_at k h
  have n9 := nine_range k
  have R1 := Lib.hid r1; have R2 := Lib.hid r2; have R3 := Lib.hid r3
  clear h r1 r2 r3
  go_enter Tryd.func5, Tryd.ntmps5
  go_wp2_with fail
  refine (c1 _ T.out).mono ?_; rintro e w1 ⟨rfl, b1⟩
  replace T := Lib.hid (T.out.keep b1)
  replace H := bnext H (Nat.le_refl _) b1
  clear b1
  unfold kcells
  go_wp2_with fail
  rw [show (#[.int .i64 (rr k 0), .int .i64 (rr k 1), .int .i64 (rr k 2), .int .i64 (rr k 3), .int .i64 (rr k 4), .int .i64 (rr k 5), .int .i64 (rr k 6), .int .i64 (rr k 7), .int .i64 (rr k 8), .int .u8 (rr k 9), .bool (boltB k)] : Array Value) = kcells k from rfl]
  have b2 := (Below.refl w1.heap.size w1).alloc (Nat.le_refl _) (.cells (kcells k) 32)
  have B1 := rbox_new w1 k
  replace T := Lib.hid (T.out.keep b2)
  replace H := bnext H (Nat.le_refl _) b2
  clear b2
  refine (c3 _).mono ?_; rintro e w2 ⟨g2, rfl, N2, b3⟩
  replace B1 := B1.keep b3
  replace T := Lib.hid (T.out.keep b3)
  replace H := bnext H (Nat.le_refl _) b3
  clear b3
  generalize w1.heap.size = g0 at *
  have q0 := B1 0 (by omega); have q1 := B1 1 (by omega); have q2 := B1 2 (by omega); have q3 := B1 3 (by omega); have q4 := B1 4 (by omega); have q5 := B1 5 (by omega); have q6 := B1 6 (by omega); have q7 := B1 7 (by omega); have q8 := B1 8 (by omega); have q9 := B1 9 (by omega)
  simp [kcells] at q0 q1 q2 q3 q4 q5 q6 q7 q8 q9
  have hlt := B1.lt
  go_wp2_with fail
  clear q0 q1 q2 q3 q4 q5 q6 q7 q8 q9
  have N1 : Nums (w2.alloc (.cells #[.int .i64 (rr k 0), .int .i64 (rr k 1), .int .i64 (rr k 2), .int .i64 (rr k 3), .int .i64 (rr k 4), .int .i64 (rr k 5), .int .i64 (rr k 6), .int .i64 (rr k 7), .int .i64 (rr k 8), .int .i64 (rr k 9)] 3)) w2.heap.size (tenL k) := nums_new w2 _ (tenL k) rfl
  have b3 := (Below.refl w2.heap.size w2).alloc (Nat.le_refl _) (.cells #[.int .i64 (rr k 0), .int .i64 (rr k 1), .int .i64 (rr k 2), .int .i64 (rr k 3), .int .i64 (rr k 4), .int .i64 (rr k 5), .int .i64 (rr k 6), .int .i64 (rr k 7), .int .i64 (rr k 8), .int .i64 (rr k 9)] 3)
  replace B1 := B1.keep b3
  replace N2 := N2.keep b3
  replace T := Lib.hid (T.out.keep b3)
  replace H := bnext H (Nat.le_refl _) b3
  clear b3
  generalize w2.alloc (.cells #[.int .i64 (rr k 0), .int .i64 (rr k 1), .int .i64 (rr k 2), .int .i64 (rr k 3), .int .i64 (rr k 4), .int .i64 (rr k 5), .int .i64 (rr k 6), .int .i64 (rr k 7), .int .i64 (rr k 8), .int .i64 (rr k 9)] 3) = w3 at *
  generalize w2.heap.size = g1 at *
  go_loopw [9] (fun i wr => ∃ j : Nat, j ≤ 10 ∧ i = .int .i64 j ∧ Nums wr g1 (tenL k) ∧ Nums wr g2 (refL k) ∧ Rbox wr g0 k ∧ RTab wr ∧ Below w.heap.size w wr) (fun i _ => 10 - (intOf i).toNat)
  case atStart => exact ⟨0, by omega, rfl, N1, N2, B1, T.out, H⟩
  case round =>
    clear N1 N2 B1 T H
    obtain ⟨j, hj, rfl, N1, N2, B1, T, H⟩ := hrel
    by_cases hlt : j < 10
    · have p1 := N1 j hlt
      have p2 := N2 j (by rw [R3.out]; omega)
      rw [ten_at k j hlt] at p1
      rw [R1.out j hlt] at p2
      have M1 := Lib.hid N1; have M2 := Lib.hid N2; have MB := Lib.hid B1; have MT := Lib.hid T
      clear N1 N2 B1 T
      go_wp2_with fail
      go_quiet (fail)
      go_wp2_with fail
      exact ⟨⟨j + 1, by omega, by go_num, M1.out, M2.out, MB.out, MT.out, bdrewN H _⟩, by simp [intOf]; omega⟩
    · have hj2 : j = 10 := by omega
      subst hj2
      have b := bb_is k
      have p1 := N2 1 (by rw [R3.out]; omega)
      have p9 := N2 9 (by rw [R3.out]; omega)
      have p10 := N2 10 (by rw [R3.out]; omega)
      rw [R1.out 1 (by omega)] at p1
      rw [R1.out 9 (by omega)] at p9
      rw [R2.out] at p10
      have q0 := B1 0 (by omega); have q1 := B1 1 (by omega); have q2 := B1 2 (by omega); have q3 := B1 3 (by omega); have q4 := B1 4 (by omega); have q5 := B1 5 (by omega); have q6 := B1 6 (by omega); have q7 := B1 7 (by omega); have q8 := B1 8 (by omega); have q9 := B1 9 (by omega); have q10 := B1 10 (by omega)
      simp [kcells] at q0 q1 q2 q3 q4 q5 q6 q7 q8 q9 q10
      have hlt := B1.lt
      have MT := Lib.hid T
      clear N1 N2 B1 T
      go_wp2_with fail
      have rp1 := fun D O => cell_regrown p1 D O; have rp9 := fun D O => cell_regrown p9 D O; have rp10 := fun D O => cell_regrown p10 D O
      have rq0 := fun D O => cell_regrown q0 D O; have rq1 := fun D O => cell_regrown q1 D O; have rq2 := fun D O => cell_regrown q2 D O; have rq3 := fun D O => cell_regrown q3 D O; have rq4 := fun D O => cell_regrown q4 D O; have rq5 := fun D O => cell_regrown q5 D O; have rq6 := fun D O => cell_regrown q6 D O; have rq7 := fun D O => cell_regrown q7 D O; have rq8 := fun D O => cell_regrown q8 D O; have rq9 := fun D O => cell_regrown q9 D O; have rq10 := fun D O => cell_regrown q10 D O
      have hcase : (m = 0) ∨ (0 < m ∧ ((m : Int) == rr k 9) = true ∧ (rr k 9 == (m : Int)) = true) ∨ (0 < m ∧ ((m : Int) == rr k 9) = false ∧ (rr k 9 == (m : Int)) = false) := by
        by_cases e0 : m = 0
        · exact .inl e0
        · by_cases e1 : rr k 9 = (m : Int)
          · exact .inr (.inl ⟨by omega, by simp [e1], by simp [e1]⟩)
          · exact .inr (.inr ⟨by omega, by simp; omega, by simp; omega⟩)
      have kc : (.agg (kcells k) : Value) = .agg #[.int .i64 (rr k 0), .int .i64 (rr k 1), .int .i64 (rr k 2), .int .i64 (rr k 3), .int .i64 (rr k 4), .int .i64 (rr k 5), .int .i64 (rr k 6), .int .i64 (rr k 7), .int .i64 (rr k 8), .int .u8 (rr k 9), .bool (boltB k)] := rfl
      have cb := fun W => building_any k W
      rw [kc] at cb
      clear kc c1 c3
      rcases hcase with rfl | ⟨m1, m2, m3⟩ | ⟨m1, m2, m3⟩
      · have c4 : ∀ W, RTab W → Calls Tryd.prog 13 #[.int .u8 0, .int .u8 (k : Int)] W fun e w' => e = .returned (.bool false) ∧ Below W.heap.size W w' := fun W hT => by simpa using c2 W hT
        clear c2
        refine wp_region_quiet_below (by kernel_rfl) (by kernel_rfl) ?_
        repeat (go_big_quiet_step (first | (go_at_call 15; exact Calls.regrown_of (cb _)) | (go_at_call 13; exact Calls.regrown_of (c4 _ (MT.out.keep (below_regrown _ _ _)))) | (go_at_call 14; exact Calls.regrown_of (rwakes _ (MT.out.keep (below_regrown _ _ _))))))
        refine wpQuiet_nil ?_
        intro _ hw'
        obtain ⟨⟨dq, osq⟩, hw''⟩ := hw'
        subst hw''
        go_wp2_with fail
        go_ret
        exact ⟨rfl, bnext H (Nat.le_refl _) (below_regrown _ _ _)⟩
      · have c4 : ∀ W, RTab W → Calls Tryd.prog 13 #[.int .u8 (m : Int), .int .u8 (k : Int)] W fun e w' => e = .returned (.bool true) ∧ Below W.heap.size W w' := fun W hT => by simpa [m1, m3] using c2 W hT
        clear c2 m3
        refine wp_region_quiet_below (by kernel_rfl) (by kernel_rfl) ?_
        repeat (go_big_quiet_step (first | (go_at_call 15; exact Calls.regrown_of (cb _)) | (go_at_call 13; exact Calls.regrown_of (c4 _ (MT.out.keep (below_regrown _ _ _)))) | (go_at_call 14; exact Calls.regrown_of (rwakes _ (MT.out.keep (below_regrown _ _ _))))))
        refine wpQuiet_nil ?_
        intro _ hw'
        obtain ⟨⟨dq, osq⟩, hw''⟩ := hw'
        subst hw''
        go_wp2_with fail
        go_ret
        exact ⟨rfl, bnext H (Nat.le_refl _) (below_regrown _ _ _)⟩
      · have c4 : ∀ W, RTab W → Calls Tryd.prog 13 #[.int .u8 (m : Int), .int .u8 (k : Int)] W fun e w' => e = .returned (.bool false) ∧ Below W.heap.size W w' := fun W hT => by simpa [m1, m3] using c2 W hT
        clear c2 m3
        refine wp_region_quiet_below (by kernel_rfl) (by kernel_rfl) ?_
        repeat (go_big_quiet_step (first | (go_at_call 15; exact Calls.regrown_of (cb _)) | (go_at_call 13; exact Calls.regrown_of (c4 _ (MT.out.keep (below_regrown _ _ _)))) | (go_at_call 14; exact Calls.regrown_of (rwakes _ (MT.out.keep (below_regrown _ _ _))))))
        refine wpQuiet_nil ?_
        intro _ hw'
        obtain ⟨⟨dq, osq⟩, hw''⟩ := hw'
        subst hw''
        go_wp2_with fail
        go_ret
        exact ⟨rfl, bnext H (Nat.le_refl _) (below_regrown _ _ _)⟩
theorem tell_any (k m : Nat) (hk : k ≤ 255) (hm : m ≤ 255) (w : World) (ht : RTab w) : Calls Tryd.prog 5 #[.int .u8 (k : Int), .int .u8 (m : Int)] w fun e w' => e = .returned (.bool true) ∧ Below w.heap.size w w' := by
  cases h : isB k
  · exact tell_none k m hk hm h w ht
  · exact tell_some k m hk hm h w ht
end Go.Proofs.YtfdbibddhneklaaDoor
