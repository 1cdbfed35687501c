/- The walks of rules.Makes, Building, of what is known of rules, and of the reference's Row. No condition. -/
import Derived.Test.YtfdbibddhneklaaDoorU1
namespace Go.Proofs.YtfdbibddhneklaaDoor
open Go.RowKit
theorem building_any (k : Nat) (w : World) : Calls Tryd.prog 15 #[.agg (kcells k)] w fun e w' => e = .returned (.bool (rr k 1 == 0)) ∧ Below w.heap.size w w' := by
  unfold kcells
  go_enter Tryd.func15, Tryd.ntmps15
  go_wp2
  go_ret
  exact ⟨rfl, (Below.refl _ _).alloc (Nat.le_refl _) _⟩
/-- does a kind make another one? -/
def mk (m k : Nat) : Bool := isB m && (isB k && (rr k 9 == (m : Int)))
set_option maxRecDepth 100000 in
theorem makes_any (m k : Nat) (hm : m ≤ 255) (hk : k ≤ 255) (w : World) (ht : RTab w) : Calls Tryd.prog 13 #[.int .u8 (m : Int), .int .u8 (k : Int)] w fun e w' => e = .returned (.bool (mk m k)) ∧ Below w.heap.size w w' := by
  have T := Lib.hid ht
  have hmk : Hid (mk m k = (isB m && (isB k && (rr k 9 == (m : Int))))) := Lib.hid rfl
  clear ht
  have H := Below.refl w.heap.size w
  go_enter Tryd.func13, Tryd.ntmps13
  go_wp2_with fail
  refine (of_any m hm _ T.out).mono ?_; rintro e w1 ⟨rfl, b1⟩
  replace T := Lib.hid (T.out.keep b1)
  replace H := bnext H (Nat.le_refl _) b1
  unfold kcells
  clear b1
  go_wp2_with fail
  have b2 := (Below.refl w1.heap.size w1).alloc (Nat.le_refl _) (.cells #[.int .i64 (rr m 0), .int .i64 (rr m 1), .int .i64 (rr m 2), .int .i64 (rr m 3), .int .i64 (rr m 4), .int .i64 (rr m 5), .int .i64 (rr m 6), .int .i64 (rr m 7), .int .i64 (rr m 8), .int .u8 (rr m 9), .bool (boltB m)] 32)
  replace T := Lib.hid (T.out.keep b2)
  replace H := bnext H (Nat.le_refl _) b2
  clear b2
  refine (of_any k hk _ T.out).mono ?_; rintro e w2 ⟨rfl, b1⟩
  replace H := bnext H (Nat.le_refl _) b1
  clear b1 T
  unfold kcells
  cases h1 : isB m <;> cases h2 : isB k
  all_goals
    rw [h1, h2] at hmk
    have hmk2 := Lib.hid hmk.out
    clear hmk h1 h2
    go_wp2_with fail
    go_ret
    rw [hmk2.out]
    exact ⟨by simp, H.alloc H.size _⟩
end Go.Proofs.YtfdbibddhneklaaDoor
