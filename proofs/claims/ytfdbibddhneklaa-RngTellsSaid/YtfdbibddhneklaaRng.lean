/- The walks of the generator: Seed, Next, Below and the law RngUnlike. No condition. -/
import Derived.Test.YtfdbibddhneklaaProg
import Derived.Test.YtfdbibddhneklaaPure
import Derived.WalkKit
import Derived.Below
namespace Go.Proofs.Ytfdbibddhneklaa
open Go.RowKit
theorem seed_any (n : Int) (w : World) : Calls Try.prog 5 #[.int .u32 n] w fun e w' => e = .returned (.int .u32 (sdI n)) ∧ w = w' := by
  by_cases h : n = 0
  · subst h
    go_enter Try.func5, Try.ntmps5
    go_wp2
    go_ret
    exact ⟨rfl, rfl⟩
  · have e : sdI n = n := if_neg h
    have E : Hid (sdI n = n) := e
    clear e
    go_enter Try.func5, Try.ntmps5
    go_wp2
    go_ret
    exact ⟨by simp [E.out], rfl⟩
theorem mix_at (x y : Int) (w : World) :
    Calls Try.prog 12 #[.int .u32 y, .pointer (some ⟨w.heap.size, 0, none⟩)] (w.alloc (.cells #[.int .u32 x] 22)) fun e w' => e = .returned (.tuple #[]) ∧ w' = w.alloc (.cells #[.int .u32 (bits .xor .u32 x y)] 22) := by
  go_enter Try.func12, Try.ntmps12
  go_wp2
  go_end0
  exact ⟨rfl, rfl⟩
set_option maxHeartbeats 400000 in
theorem next_any (n : Int) (w : World) : Calls Try.prog 7 #[.int .u32 n] w fun e w' => e = .returned (.int .u32 (nextI n)) ∧ Below w.heap.size w w' := by
  go_enter Try.func7, Try.ntmps7
  go_wp2_with (first | (go_at_call 5; refine (seed_any _ _).mono ?_; rintro e w' ⟨rfl, rfl⟩) | (go_at_call 12; refine (mix_at _ _ _).mono ?_; rintro e w' ⟨rfl, rfl⟩))
  go_ret
  exact ⟨rfl, (Below.refl _ _).alloc (Nat.le_refl _) _⟩
theorem below_773 (w : World) : Calls Try.prog 9 #[.int .u32 773, .int .i64 2] w fun e w' => e = .returned (.int .i64 1) ∧ w = w' := by
  go_enter Try.func9, Try.ntmps9
  go_wp2
  go_ret
  exact ⟨rfl, rfl⟩
theorem bnext {B : Nat} {w w1 w2 : World} (h : Below B w w1) (hB : B ≤ w.heap.size) (k : Below w1.heap.size w1 w2) : Below B w w2 := h.trans (k.mono (Nat.le_trans hB h.size))
set_option maxHeartbeats 400000 in
theorem wakes_true (w : World) : Calls Try.prog 11 #[] w fun e w' => e = .returned (.bool true) ∧ Below w.heap.size w w' := by
  have H := Below.refl w.heap.size w
  have h1 : (sdI 1 == 1) = true := by decide +kernel
  have h2 : (nextI 1 == 270369) = true := by decide +kernel
  have h3 : (nextI 0 == nextI 2654435769) = true := by decide +kernel
  go_enter Try.func11, Try.ntmps11
  go_wp2_with (first | (go_at_call 5; refine (seed_any _ _).mono ?_; rintro e w' ⟨rfl, rfl⟩) | (go_at_call 7; refine (next_any _ _).mono ?_; rintro e w' ⟨rfl, hb⟩; replace H := bnext H (Nat.le_refl _) hb; clear hb) | (go_at_call 9; refine (below_773 _).mono ?_; rintro e w' ⟨rfl, rfl⟩))
  go_ret
  exact ⟨rfl, H⟩
set_option maxHeartbeats 400000 in
theorem unlike_true (a b : Int) (ha : 0 ≤ a ∧ a ≤ 4294967295) (hb : 0 ≤ b ∧ b ≤ 4294967295) (w : World) : Calls Try.prog 4 #[.int .u32 a, .int .u32 b] w fun e w' => e = .returned (.bool true) ∧ Below w.heap.size w w' := by
  have h1 : (nextI (sdI a) != 0) = true := by
    have := next_ne (sdI a) (sdI_range a ha)
    simp [bne_iff_ne, this]
  have h2 : ((nextI (sdI a) == nextI (sdI b)) == (sdI a == sdI b)) = true := by
    have := next_eq (sdI a) (sdI b) (sdI_range a ha) (sdI_range b hb)
    rw [sdI_sdI, sdI_sdI] at this
    rw [beq_iff_eq, Bool.eq_iff_iff, beq_iff_eq, beq_iff_eq]
    exact this
  clear ha hb
  have H := Below.refl w.heap.size w
  go_enter Try.func4, Try.ntmps4
  go_wp2_with (first | (go_at_call 5; refine (seed_any _ _).mono ?_; rintro e w' ⟨rfl, rfl⟩) | (go_at_call 7; refine (next_any _ _).mono ?_; rintro e w' ⟨rfl, hb⟩; replace H := bnext H (Nat.le_refl _) hb; clear hb) | (go_at_call 11; refine (wakes_true _).mono ?_; rintro e w' ⟨rfl, hb⟩; replace H := bnext H (Nat.le_refl _) hb; clear hb))
  go_ret
  exact ⟨rfl, H⟩
end Go.Proofs.Ytfdbibddhneklaa
