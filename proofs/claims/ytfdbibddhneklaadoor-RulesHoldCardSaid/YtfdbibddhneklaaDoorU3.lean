/- What is known of rules (wakes), and the reference's Row. No condition. -/
import Derived.Test.YtfdbibddhneklaaDoorU2
namespace Go.Proofs.YtfdbibddhneklaaDoor
open Go.RowKit
/-- a slice of numbers, in new memory -/
def Nums (w : World) (g : Nat) (l : List Int) : Prop := ∀ j, j < l.length → w.cell? ⟨g, j, none⟩ = some (.int .i64 (l.getD j 0))
theorem Nums.keep {w w1 : World} {g : Nat} {l : List Int} (h : Nums w g l) (hb : Below w.heap.size w w1) : Nums w1 g l := fun j hj => by
  have hc := h j hj
  exact (hb.cell (World.block_lt_of_cell? w _ hc)).trans hc
theorem nums_new (w : World) (c : Array Value) (l : List Int) (h : c = (l.map (Value.int .i64)).toArray) : Nums (w.alloc (.cells c 3)) w.heap.size l := by
  subst h
  intro j hj
  simp [go_sem, hj]
/-- what the reference's row is -/
def refL (k : Nat) : List Int := rowL k ++ [if boltB k then 1 else 0]
theorem row_1 (w : World) : Calls Tryd.prog 12 #[.int .i64 1] w fun e w' => ∃ g, e = .returned (.slice (some ⟨g, 0, none⟩) 11 11) ∧ Nums w' g (refL 1) ∧ Below w.heap.size w w' := by
  go_enter Tryd.func12, Tryd.ntmps12
  go_wp2
  refine bodyPost_ret (v := .slice (some ⟨w.heap.size, 0, none⟩) 11 11) (by simp [results, Tryd.results12, go_sem]) rfl ⟨_, rfl, nums_new _ _ _ rfl, (Below.refl _ _).alloc (Nat.le_refl _) _⟩
theorem row_2 (w : World) : Calls Tryd.prog 12 #[.int .i64 2] w fun e w' => ∃ g, e = .returned (.slice (some ⟨g, 0, none⟩) 11 11) ∧ Nums w' g (refL 2) ∧ Below w.heap.size w w' := by
  go_enter Tryd.func12, Tryd.ntmps12
  go_wp2
  refine bodyPost_ret (v := .slice (some ⟨w.heap.size, 0, none⟩) 11 11) (by simp [results, Tryd.results12, go_sem]) rfl ⟨_, rfl, nums_new _ _ _ rfl, (Below.refl _ _).alloc (Nat.le_refl _) _⟩
theorem row_3 (w : World) : Calls Tryd.prog 12 #[.int .i64 3] w fun e w' => ∃ g, e = .returned (.slice (some ⟨g, 0, none⟩) 11 11) ∧ Nums w' g (refL 3) ∧ Below w.heap.size w w' := by
  go_enter Tryd.func12, Tryd.ntmps12
  go_wp2
  refine bodyPost_ret (v := .slice (some ⟨w.heap.size, 0, none⟩) 11 11) (by simp [results, Tryd.results12, go_sem]) rfl ⟨_, rfl, nums_new _ _ _ rfl, (Below.refl _ _).alloc (Nat.le_refl _) _⟩
theorem row_4 (w : World) : Calls Tryd.prog 12 #[.int .i64 4] w fun e w' => ∃ g, e = .returned (.slice (some ⟨g, 0, none⟩) 11 11) ∧ Nums w' g (refL 4) ∧ Below w.heap.size w w' := by
  go_enter Tryd.func12, Tryd.ntmps12
  go_wp2
  refine bodyPost_ret (v := .slice (some ⟨w.heap.size, 0, none⟩) 11 11) (by simp [results, Tryd.results12, go_sem]) rfl ⟨_, rfl, nums_new _ _ _ rfl, (Below.refl _ _).alloc (Nat.le_refl _) _⟩
theorem row_5 (w : World) : Calls Tryd.prog 12 #[.int .i64 5] w fun e w' => ∃ g, e = .returned (.slice (some ⟨g, 0, none⟩) 11 11) ∧ Nums w' g (refL 5) ∧ Below w.heap.size w w' := by
  go_enter Tryd.func12, Tryd.ntmps12
  go_wp2
  refine bodyPost_ret (v := .slice (some ⟨w.heap.size, 0, none⟩) 11 11) (by simp [results, Tryd.results12, go_sem]) rfl ⟨_, rfl, nums_new _ _ _ rfl, (Below.refl _ _).alloc (Nat.le_refl _) _⟩
theorem row_none (k : Int) (h : k < 1 ∨ 5 < k) (w : World) : Calls Tryd.prog 12 #[.int .i64 k] w fun e w' => e = .returned (.slice none 0 0) ∧ w = w' := by
  rcases h with h | h
  all_goals
    go_enter Tryd.func12, Tryd.ntmps12
    go_wp2
    go_ret
    exact ⟨rfl, rfl⟩
theorem row_any (k : Nat) (h : isB k = true) (w : World) : Calls Tryd.prog 12 #[.int .i64 (k : Int)] w fun e w' => ∃ g, e = .returned (.slice (some ⟨g, 0, none⟩) 11 11) ∧ Nums w' g (refL k) ∧ Below w.heap.size w w' := by
  obtain h | h | h | h | h : k = 1 ∨ k = 2 ∨ k = 3 ∨ k = 4 ∨ k = 5 := by
    unfold isB at h
    split at h <;> simp_all
  all_goals subst h
  · exact row_1 w
  · exact row_2 w
  · exact row_3 w
  · exact row_4 w
  · exact row_5 w
theorem isB_range {k : Nat} (h : isB k = true) : 1 ≤ k ∧ k ≤ 5 := by
  unfold isB at h
  split at h <;> simp_all
theorem not_isB {k : Nat} (h : isB k = false) : k < 1 ∨ 5 < k := by
  unfold isB at h
  split at h <;> simp_all
  omega
set_option maxRecDepth 100000 in
theorem rwakes (w : World) (ht : RTab w) : Calls Tryd.prog 14 #[] w fun e w' => e = .returned (.bool true) ∧ Below w.heap.size w w' := by
  have T := Lib.hid ht
  clear ht
  have H := Below.refl w.heap.size w
  go_enter Tryd.func14, Tryd.ntmps14
  go_wp2_with fail
  refine (of_any 4 (by omega) _ T.out).mono ?_; rintro e w1 ⟨rfl, b1⟩
  replace T := Lib.hid (T.out.keep b1)
  replace H := bnext H (Nat.le_refl _) b1
  clear b1
  unfold kcells
  simp only [rr, rowL, boltB, isB, List.getD_cons_zero, List.getD_cons_succ]
  go_wp2_with fail
  have b2 := (Below.refl w1.heap.size w1).alloc (Nat.le_refl _) (.cells #[.int .i64 12, .int .i64 2, .int .i64 4, .int .i64 3, .int .i64 6, .int .i64 25, .int .i64 10, .int .i64 5, .int .i64 1, .int .u8 5, .bool true] 32)
  replace T := Lib.hid (T.out.keep b2)
  refine (makes_any 5 4 (by omega) (by omega) _ T.out).mono ?_; rintro e w2 ⟨rfl, b3⟩
  rw [show mk 5 4 = true from rfl]
  obtain ⟨hc, hf⟩ := bcell b3
  replace T := Lib.hid (T.out.keep b3)
  replace H := bnext (bnext H (Nat.le_refl _) b2) (Nat.le_refl _) b3
  have hz : w1.heap.size < w2.heap.size := by have := b3.size; simp at this; omega
  clear b2 b3
  go_wp2_with fail
  refine (makes_any 1 3 (by omega) (by omega) _ T.out).mono ?_; rintro e w3 ⟨rfl, b3⟩
  rw [show mk 1 3 = false from rfl]
  obtain ⟨hc2, hf2⟩ := bcell b3
  replace H := bnext H (Nat.le_refl _) b3
  have hz2 : w1.heap.size < w3.heap.size := by have := b3.size; omega
  clear b3 T
  go_wp2_with fail
  refine (building_any 4 _).mono ?_; rintro e w4 ⟨rfl, b3⟩
  replace H := bnext H (Nat.le_refl _) b3
  clear hc hc2 hf hf2
  simp only [rr, rowL, List.getD_cons_zero, List.getD_cons_succ]
  go_wp2_with fail
  go_ret
  exact ⟨rfl, H⟩
end Go.Proofs.YtfdbibddhneklaaDoor
