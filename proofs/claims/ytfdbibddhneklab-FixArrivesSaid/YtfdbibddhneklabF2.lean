/- The walks of fix: may, moved, Middle. No condition. -/
import Derived.Test.YtfdbibddhneklabF1
import Derived.Deep.QuietTactic
import Derived.BigQuiet
import Derived.StillTailTactics
namespace Go.Proofs.Ytfdbibddhneklab
open Go.RowKit RootP
def mayB (x y : Int) : Bool := decide (-1048576 ≤ x) && (decide (x ≤ 1048576) && (decide (-1048576 ≤ y) && decide (y ≤ 1048576)))
theorem mayB_true {x y : Int} : mayB x y = true ↔ (-1048576 ≤ x ∧ x ≤ 1048576 ∧ -1048576 ≤ y ∧ y ≤ 1048576) := by simp [mayB]
theorem mayB_no {x y : Int} (h : ¬ (-1048576 ≤ x ∧ x ≤ 1048576 ∧ -1048576 ≤ y ∧ y ≤ 1048576)) : mayB x y = false := by
  cases e : mayB x y
  · rfl
  · exact absurd (mayB_true.1 e) h
theorem may_any (x y : Int) (w : World) : Calls Try.prog 43 #[.agg #[.int .i32 x, .int .i32 y]] w fun e w' => e = .returned (.bool (mayB x y)) ∧ Below w.heap.size w w' := by
  by_cases h1 : -1048576 ≤ x
  · by_cases h2 : x ≤ 1048576
    · by_cases h3 : -1048576 ≤ y
      · by_cases h4 : y ≤ 1048576
        · have e := Lib.hid (mayB_true.2 ⟨h1, h2, h3, h4⟩)
          go_enter Try.func43, Try.ntmps43
          go_wp2
          go_ret
          exact ⟨by rw [e.out]; rfl, (Below.refl _ _).alloc (Nat.le_refl _) _⟩
        · have e := Lib.hid (mayB_no (x := x) (y := y) (fun h => h4 h.2.2.2))
          go_enter Try.func43, Try.ntmps43
          go_wp2
          go_ret
          exact ⟨by rw [e.out]; rfl, (Below.refl _ _).alloc (Nat.le_refl _) _⟩
      · have e := Lib.hid (mayB_no (x := x) (y := y) (fun h => h3 h.2.2.1))
        go_enter Try.func43, Try.ntmps43
        go_wp2
        go_ret
        exact ⟨by rw [e.out]; rfl, (Below.refl _ _).alloc (Nat.le_refl _) _⟩
    · have e := Lib.hid (mayB_no (x := x) (y := y) (fun h => h2 h.2.1))
      go_enter Try.func43, Try.ntmps43
      go_wp2
      go_ret
      exact ⟨by rw [e.out]; rfl, (Below.refl _ _).alloc (Nat.le_refl _) _⟩
  · have e := Lib.hid (mayB_no (x := x) (y := y) (fun h => h1 h.1))
    go_enter Try.func43, Try.ntmps43
    go_wp2
    go_ret
    exact ⟨by rw [e.out]; rfl, (Below.refl _ _).alloc (Nat.le_refl _) _⟩
/-- a part of the way -/
def partI (a b part all : Int) : Int := a + ((b - a) * part).tdiv all
theorem tdiv_part (d part all : Int) (hp : 0 ≤ part ∧ part ≤ all) (ha : 1 ≤ all) : (0 ≤ d → 0 ≤ (d * part).tdiv all ∧ (d * part).tdiv all ≤ d) ∧ (d ≤ 0 → d ≤ (d * part).tdiv all ∧ (d * part).tdiv all ≤ 0) := by
  constructor
  · intro h
    have h0 : 0 ≤ d * part := Int.mul_nonneg h hp.1
    rw [Int.tdiv_eq_ediv_of_nonneg h0]
    refine ⟨Int.ediv_nonneg h0 (by omega), ?_⟩
    exact Int.ediv_le_of_le_mul (by omega) (Int.mul_le_mul_of_nonneg_left hp.2 h)
  · intro h
    have h0 : 0 ≤ -d * part := Int.mul_nonneg (by omega) hp.1
    have e : (d * part).tdiv all = -((-d * part).tdiv all) := by rw [← Int.neg_tdiv]; congr 1; rw [Int.neg_mul]; omega
    rw [e, Int.tdiv_eq_ediv_of_nonneg h0]
    have h1 : -d * part / all ≤ -d := Int.ediv_le_of_le_mul (by omega) (Int.mul_le_mul_of_nonneg_left hp.2 (by omega))
    have h2 : 0 ≤ -d * part / all := Int.ediv_nonneg h0 (by omega)
    omega
theorem by_any (a b part all : Int) (w : World) (A B : Nat) (ha : -1048576 ≤ a ∧ a ≤ 1048576) (hb : -1048576 ≤ b ∧ b ≤ 1048576) (hp : 0 ≤ part ∧ part ≤ all) (hpm : part ≤ 1048576) (hl : 1 ≤ all ∧ all ≤ 4194304)
    (hc : w.cell? ⟨A, 0, none⟩ = some (.int .i64 part)) (hd : w.cell? ⟨B, 0, none⟩ = some (.int .i64 all)) :
    Calls Try.prog 50 #[.int .i32 a, .int .i32 b, .pointer (some ⟨A, 0, none⟩), .pointer (some ⟨B, 0, none⟩)] w fun e w' => e = .returned (.int .i32 (partI a b part all)) ∧ w = w' := by
  have hm : -2199023255552 ≤ (b - a) * part ∧ (b - a) * part ≤ 2199023255552 := by
    by_cases h : 0 ≤ b - a
    · have h1 := Int.mul_le_mul (show b - a ≤ 2097152 by omega) (show part ≤ 1048576 by omega) (by omega) (by omega)
      have h2 := Int.mul_nonneg h hp.1
      omega
    · have h1 := Int.mul_le_mul (show -(b - a) ≤ 2097152 by omega) (show part ≤ 1048576 by omega) (by omega) (by omega)
      have h2 := Int.mul_nonneg (show 0 ≤ -(b - a) by omega) hp.1
      rw [Int.neg_mul] at h1 h2
      omega
  have ht := tdiv_part (b - a) part all hp hl.1
  have hq : -2097152 ≤ ((b - a) * part).tdiv all ∧ ((b - a) * part).tdiv all ≤ 2097152 := by
    by_cases h : 0 ≤ b - a
    · have := ht.1 h; omega
    · have := ht.2 (by omega); omega
  have hne : ¬ all = 0 := by omega
  have ht2 := Lib.hid ht
  clear ht
  go_enter Try.func50, Try.ntmps50
  go_wp2
  go_ret
  exact ⟨rfl, rfl⟩
theorem middle_in (x y : Int) (hx : 0 ≤ x ∧ x < 64) (hy : 0 ≤ y ∧ y < 64) (w : World) : Calls Try.prog 22 #[.int .i64 x, .int .i64 y] w fun e w' => e = .returned (.agg #[.int .i32 (x * 256 + 128), .int .i32 (y * 256 + 128)]) ∧ Below w.heap.size w w' := by
  have h1 : ¬ x < 0 := by omega
  have h2 : ¬ 64 ≤ x := by omega
  have h3 : ¬ y < 0 := by omega
  have h4 : ¬ 64 ≤ y := by omega
  go_enter Try.func22, Try.ntmps22
  go_wp2
  exact bodyPost_ret (v := .agg #[.int .i32 (x * 256 + 128), .int .i32 (y * 256 + 128)]) (by simp [results, Try.results22, go_sem]) rfl ⟨rfl, (Below.refl _ _).alloc (Nat.le_refl _) _⟩
theorem middle_out (x y : Int) (h : ¬ (0 ≤ x ∧ x < 64 ∧ 0 ≤ y ∧ y < 64)) (w : World) : Calls Try.prog 22 #[.int .i64 x, .int .i64 y] w fun e w' => e = .returned (.agg #[.int .i32 0, .int .i32 0]) ∧ Below w.heap.size w w' := by
  have h0 := Lib.hid h
  clear h
  by_cases h1 : x < 0
  · go_enter Try.func22, Try.ntmps22
    go_wp2
    exact bodyPost_ret (v := .agg #[.int .i32 0, .int .i32 0]) (by simp [results, Try.results22, go_sem]) rfl ⟨rfl, (Below.refl _ _).alloc (Nat.le_refl _) _⟩
  by_cases h2 : 64 ≤ x
  · go_enter Try.func22, Try.ntmps22
    go_wp2
    exact bodyPost_ret (v := .agg #[.int .i32 0, .int .i32 0]) (by simp [results, Try.results22, go_sem]) rfl ⟨rfl, (Below.refl _ _).alloc (Nat.le_refl _) _⟩
  by_cases h3 : y < 0
  · go_enter Try.func22, Try.ntmps22
    go_wp2
    exact bodyPost_ret (v := .agg #[.int .i32 0, .int .i32 0]) (by simp [results, Try.results22, go_sem]) rfl ⟨rfl, (Below.refl _ _).alloc (Nat.le_refl _) _⟩
  have h4 : 64 ≤ y := by
    by_cases h4 : 64 ≤ y
    · exact h4
    · exact absurd ⟨by omega, by omega, by omega, by omega⟩ h0.out
  go_enter Try.func22, Try.ntmps22
  go_wp2
  exact bodyPost_ret (v := .agg #[.int .i32 0, .int .i32 0]) (by simp [results, Try.results22, go_sem]) rfl ⟨rfl, (Below.refl _ _).alloc (Nat.le_refl _) _⟩
set_option maxHeartbeats 1000000 in
set_option maxRecDepth 100000 in
theorem moved_any (a b c d part all : Int) (w : World) (ha : -1048576 ≤ a ∧ a ≤ 1048576) (hb : -1048576 ≤ b ∧ b ≤ 1048576) (hc : -1048576 ≤ c ∧ c ≤ 1048576) (hd : -1048576 ≤ d ∧ d ≤ 1048576) (hp : 0 ≤ part ∧ part ≤ all) (hpm : part ≤ 1048576) (hl : 1 ≤ all ∧ all ≤ 4194304) :
    Calls Try.prog 44 #[.agg #[.int .i32 a, .int .i32 b], .agg #[.int .i32 c, .int .i32 d], .int .i64 part, .int .i64 all] w fun e w' => e = .returned (.agg #[.int .i32 (partI a c part all), .int .i32 (partI b d part all)]) ∧ Below w.heap.size w w' := by
  go_enter Try.func44, Try.ntmps44
  go_wp2
  refine still_tail 13 (by kernel_rfl) (by kernel_rfl) ?_
  simp only [List.take_succ_cons, List.take_zero, List.drop_succ_cons, List.drop_zero]
  repeat still_step
  still_call ((by_any a c part all _ _ _ ha hc hp hpm hl (by simp [go_sem]) (by simp [go_sem])).mono fun _ _ ⟨he, hw⟩ => ⟨he, hw.symm⟩)
  repeat still_step
  still_call ((by_any b d part all _ _ _ hb hd hp hpm hl (by simp [go_sem]) (by simp [go_sem])).mono fun _ _ ⟨he, hw⟩ => ⟨he, hw.symm⟩)
  repeat still_step
  refine wpStill_nil ?_
  go_wp2
  exact bodyPost_ret (v := .agg #[.int .i32 (partI a c part all), .int .i32 (partI b d part all)]) (by simp [results, Try.results44, go_sem]) rfl ⟨rfl, by repeat (first | exact Below.refl _ _ | refine Below.drew ?_ | refine Below.alloc ?_ (by simp <;> omega) _)⟩
end Go.Proofs.Ytfdbibddhneklab
