/- The walks of the document's answers: back, May, Root, Far, part, Moved. No condition. -/
import Derived.Test.YtfdbibddhneklabF4
import Derived.Test.YtfdbibddhneklabInv
namespace Go.Proofs.Ytfdbibddhneklab
open Go.RowKit RootP
theorem back_any (x y : Int) (hx : -2147483648 ≤ x ∧ x ≤ 2147483647) (hy : -2147483648 ≤ y ∧ y ≤ 2147483647) (w : World) : Calls Try.prog 14 #[.agg #[.int .i32 x, .int .i32 y]] w fun e w' => e = .returned (.agg #[.int .i64 x, .int .i64 y]) ∧ Below w.heap.size w w' := by
  go_enter Try.func14, Try.ntmps14
  go_wp2
  exact bodyPost_ret (v := .agg #[.int .i64 x, .int .i64 y]) (by simp [results, Try.results14, go_sem]) rfl ⟨rfl, by repeat (first | exact Below.refl _ _ | refine Below.drew ?_ | refine Below.alloc ?_ (by simp <;> omega) _)⟩
theorem mayR_any (x y : Int) (w : World) : Calls Try.prog 19 #[.agg #[.int .i64 x, .int .i64 y]] w fun e w' => e = .returned (.bool (mayB x y)) ∧ Below w.heap.size w w' := by
  by_cases h1 : -1048576 ≤ x
  · by_cases h2 : x ≤ 1048576
    · by_cases h3 : -1048576 ≤ y
      · by_cases h4 : y ≤ 1048576
        · have e := Lib.hid (mayB_true.2 ⟨h1, h2, h3, h4⟩)
          go_enter Try.func19, Try.ntmps19
          go_wp2
          go_ret
          exact ⟨by rw [e.out]; rfl, (Below.refl _ _).alloc (Nat.le_refl _) _⟩
        · have e := Lib.hid (mayB_no (x := x) (y := y) (fun h => h4 h.2.2.2))
          go_enter Try.func19, Try.ntmps19
          go_wp2
          go_ret
          exact ⟨by rw [e.out]; rfl, (Below.refl _ _).alloc (Nat.le_refl _) _⟩
      · have e := Lib.hid (mayB_no (x := x) (y := y) (fun h => h3 h.2.2.1))
        go_enter Try.func19, Try.ntmps19
        go_wp2
        go_ret
        exact ⟨by rw [e.out]; rfl, (Below.refl _ _).alloc (Nat.le_refl _) _⟩
    · have e := Lib.hid (mayB_no (x := x) (y := y) (fun h => h2 h.2.1))
      go_enter Try.func19, Try.ntmps19
      go_wp2
      go_ret
      exact ⟨by rw [e.out]; rfl, (Below.refl _ _).alloc (Nat.le_refl _) _⟩
  · have e := Lib.hid (mayB_no (x := x) (y := y) (fun h => h1 h.1))
    go_enter Try.func19, Try.ntmps19
    go_wp2
    go_ret
    exact ⟨by rw [e.out]; rfl, (Below.refl _ _).alloc (Nat.le_refl _) _⟩
theorem rootR_any (n : Int) (hn : 0 ≤ n ∧ n ≤ 8796093022208) (w : World) : Calls Try.prog 45 #[.int .i64 n] w fun e w' => e = .returned (.int .i64 (rt n)) ∧ w = w' := by
  have hr := Lib.hid (rt_is n hn.1)
  go_enter Try.func45, Try.ntmps45
  go_wp2
  go_loop [3, 4, 5] (fun l h _ => ∃ a b : Int, l = .int .i64 a ∧ h = .int .i64 b ∧ 0 ≤ a ∧ a < b ∧ b ≤ 2147483648 ∧ Hid (a * a ≤ n ∧ n < b * b)) (fun l h _ => (intOf h - intOf l).toNat)
  case atStart => exact ⟨0, 2147483648, rfl, rfl, by omega, by omega, by omega, Lib.hid ⟨by omega, by omega⟩⟩
  case round =>
    obtain ⟨a, b, rfl, rfl, h0, h1, h2, h3⟩ := hrel
    by_cases hg : b - a > 1
    · have hm : 0 ≤ (a + b) / 2 ∧ (a + b) / 2 ≤ 2147483648 ∧ a < (a + b) / 2 ∧ (a + b) / 2 < b := by omega
      obtain ⟨m0, m1, m2, m3⟩ := hm
      have hd : (a + b).tdiv 2 = (a + b) / 2 := Int.tdiv_eq_ediv_of_nonneg (by omega)
      generalize hmm : (a + b) / 2 = m at *
      have hmul : 0 ≤ m * m ∧ m * m ≤ 4611686018427387904 := by
        have := Int.mul_le_mul m1 m1 m0 (by omega)
        exact ⟨Int.mul_nonneg m0 m0, by omega⟩
      obtain ⟨q0, q1⟩ := hmul
      by_cases hle : m * m ≤ n
      · go_wp2
        exact ⟨⟨m, b, by first | rfl | simp [hmm, hd], rfl, m0, m3, h2, Lib.hid ⟨hle, h3.out.2⟩⟩, by simp [intOf]; omega⟩
      · go_wp2
        exact ⟨⟨a, m, rfl, by first | rfl | simp [hmm, hd], h0, m2, m1, Lib.hid ⟨h3.out.1, by omega⟩⟩, by simp [intOf]; omega⟩
    · have hb : b = a + 1 := by omega
      subst hb
      have hrt : rt n = a := rt_eq ⟨h0, h3.out.1, h3.out.2⟩
      have hrt2 := Lib.hid hrt
      clear hrt
      go_wp2
      go_ret
      exact ⟨by rw [hrt2.out]; rfl, rfl⟩
end Go.Proofs.Ytfdbibddhneklab
