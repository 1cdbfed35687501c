/- One contract each for Toward and Between, of both sides. No condition. -/
import Derived.Test.YtfdbibddhneklabF7
import Derived.Lib.QuietBelow
namespace Go.Proofs.Ytfdbibddhneklab
open Go.RowKit RootP
noncomputable def twX (a b c d s : Int) : Int := if (mayB a b && mayB c d) = false then 0 else if s < 1 ∨ 256 < s then a else if farI a b c d ≤ s then c else partI a c s (farI a b c d)
noncomputable def twY (a b c d s : Int) : Int := if (mayB a b && mayB c d) = false then 0 else if s < 1 ∨ 256 < s then b else if farI a b c d ≤ s then d else partI b d s (farI a b c d)
noncomputable def twB (a b c d s : Int) : Bool := if (mayB a b && mayB c d) = false then false else if s < 1 ∨ 256 < s then false else if farI a b c d ≤ s then true else false
theorem part_range {a b p n : Int} (ha : -1048576 ≤ a ∧ a ≤ 1048576) (hb : -1048576 ≤ b ∧ b ≤ 1048576) (hp : 0 ≤ p ∧ p ≤ n) (hn : 1 ≤ n) : -1048576 ≤ partI a b p n ∧ partI a b p n ≤ 1048576 := by
  have h := tdiv_part (b - a) p n hp hn
  unfold partI
  omega
theorem farI_bound (a b c d : Int) : 0 ≤ farI a b c d ∧ farI a b c d ≤ 4194304 := by
  unfold farI
  split
  · rename_i h
    rw [Bool.and_eq_true] at h
    exact (dist_bound a b c d h.1 h.2).2
  · omega
theorem twX_range (a b c d s : Int) : -1048576 ≤ twX a b c d s ∧ twX a b c d s ≤ 1048576 := by
  unfold twX
  split
  · omega
  · rename_i h
    rw [Bool.not_eq_false, Bool.and_eq_true] at h
    have h1 := mayB_true.1 h.1
    have h2 := mayB_true.1 h.2
    split
    · omega
    · split
      · omega
      · exact part_range (by omega) (by omega) (by omega) (by omega)
theorem twY_range (a b c d s : Int) : -1048576 ≤ twY a b c d s ∧ twY a b c d s ≤ 1048576 := by
  unfold twY
  split
  · omega
  · rename_i h
    rw [Bool.not_eq_false, Bool.and_eq_true] at h
    have h1 := mayB_true.1 h.1
    have h2 := mayB_true.1 h.2
    split
    · omega
    · split
      · omega
      · exact part_range (by omega) (by omega) (by omega) (by omega)
theorem toward_any (a b c d s : Int) (w : World) : Calls Try.prog 15 #[.agg #[.int .i32 a, .int .i32 b], .agg #[.int .i32 c, .int .i32 d], .int .i32 s] w fun e w' => e = .returned (.tuple #[.agg #[.int .i32 (twX a b c d s), .int .i32 (twY a b c d s)], .bool (twB a b c d s)]) ∧ Below w.heap.size w w' := by
  unfold twX twY twB
  by_cases h : (mayB a b && mayB c d) = false
  · simp only [if_pos h]
    exact toward_no a b c d s h w
  · simp only [if_neg h]
    rw [Bool.not_eq_false, Bool.and_eq_true] at h
    by_cases h1 : s < 1 ∨ 256 < s
    · simp only [if_pos h1]
      exact toward_bad a b c d s h.1 h.2 h1 w
    · simp only [if_neg h1]
      by_cases h2 : farI a b c d ≤ s
      · simp only [if_pos h2]
        exact toward_there a b c d s h.1 h.2 (by omega) h2 w
      · simp only [if_neg h2]
        exact toward_on a b c d s h.1 h.2 (by omega) (by omega) w
theorem towardR_any (a b c d s : Int) (w : World) : Calls Try.prog 16 #[.agg #[.int .i64 a, .int .i64 b], .agg #[.int .i64 c, .int .i64 d], .int .i64 s] w fun e w' => e = .returned (.tuple #[.agg #[.int .i64 (twX a b c d s), .int .i64 (twY a b c d s)], .bool (twB a b c d s)]) ∧ Below w.heap.size w w' := by
  unfold twX twY twB
  by_cases h : (mayB a b && mayB c d) = false
  · simp only [if_pos h]
    exact towardR_no a b c d s h w
  · simp only [if_neg h]
    rw [Bool.not_eq_false, Bool.and_eq_true] at h
    by_cases h1 : s < 1 ∨ 256 < s
    · simp only [if_pos h1]
      exact towardR_bad a b c d s h.1 h.2 h1 w
    · simp only [if_neg h1]
      by_cases h2 : farI a b c d ≤ s
      · simp only [if_pos h2]
        exact towardR_there a b c d s h.1 h.2 (by omega) h2 w
      · simp only [if_neg h2]
        exact towardR_on a b c d s h.1 h.2 (by omega) (by omega) w
/-- what Between answers -/
def btX (a b c d p n : Int) : Int := if (mayB a b && mayB c d) = false then 0 else if 1 ≤ n ∧ n ≤ 1048576 ∧ 0 ≤ p ∧ p ≤ n then partI a c p n else a
def btY (a b c d p n : Int) : Int := if (mayB a b && mayB c d) = false then 0 else if 1 ≤ n ∧ n ≤ 1048576 ∧ 0 ≤ p ∧ p ≤ n then partI b d p n else b
theorem between_any (a b c d p n : Int) (w : World) : Calls Try.prog 21 #[.agg #[.int .i32 a, .int .i32 b], .agg #[.int .i32 c, .int .i32 d], .int .i64 p, .int .i64 n] w fun e w' => e = .returned (.agg #[.int .i32 (btX a b c d p n), .int .i32 (btY a b c d p n)]) ∧ Below w.heap.size w w' := by
  unfold btX btY
  by_cases h : (mayB a b && mayB c d) = false
  · simp only [if_pos h]
    exact between_no a b c d p n h w
  · simp only [if_neg h]
    rw [Bool.not_eq_false, Bool.and_eq_true] at h
    by_cases h1 : 1 ≤ n ∧ n ≤ 1048576 ∧ 0 ≤ p ∧ p ≤ n
    · simp only [if_pos h1]
      exact between_in a b c d p n h.1 h.2 h1 w
    · simp only [if_neg h1]
      exact between_bad a b c d p n h.1 h.2 h1 w
theorem btX_range (a b c d p n : Int) : -1048576 ≤ btX a b c d p n ∧ btX a b c d p n ≤ 1048576 := by
  unfold btX
  split
  · omega
  · rename_i h
    rw [Bool.not_eq_false, Bool.and_eq_true] at h
    have h1 := mayB_true.1 h.1
    have h2 := mayB_true.1 h.2
    split
    · exact part_range (by omega) (by omega) (by omega) (by omega)
    · omega
theorem btY_range (a b c d p n : Int) : -1048576 ≤ btY a b c d p n ∧ btY a b c d p n ≤ 1048576 := by
  unfold btY
  split
  · omega
  · rename_i h
    rw [Bool.not_eq_false, Bool.and_eq_true] at h
    have h1 := mayB_true.1 h.1
    have h2 := mayB_true.1 h.2
    split
    · exact part_range (by omega) (by omega) (by omega) (by omega)
    · omega
/-- what Middle answers -/
def mdX (x y : Int) : Int := if 0 ≤ x ∧ x < 64 ∧ 0 ≤ y ∧ y < 64 then x * 256 + 128 else 0
theorem middle_any (x y : Int) (w : World) : Calls Try.prog 22 #[.int .i64 x, .int .i64 y] w fun e w' => e = .returned (.agg #[.int .i32 (mdX x y), .int .i32 (mdX y x)]) ∧ Below w.heap.size w w' := by
  unfold mdX
  by_cases h : 0 ≤ x ∧ x < 64 ∧ 0 ≤ y ∧ y < 64
  · rw [if_pos h, if_pos (by omega)]
    exact middle_in x y (by omega) (by omega) w
  · rw [if_neg h, if_neg (by omega)]
    exact middle_out x y h w
theorem mdX_range (x y : Int) : 0 ≤ mdX x y ∧ mdX x y ≤ 16384 := by
  unfold mdX
  split <;> omega
end Go.Proofs.Ytfdbibddhneklab
