/- The walks of rules.Of, Makes, Building and of the reference's Row. No condition. -/
import Derived.Test.YtfdbibddhneklaaDoorProg
import Derived.Test.YtfdbibddhneklaaDoorKit
namespace Go.Proofs.YtfdbibddhneklaaDoor
open Go.RowKit
/-- a kind's row: ten numbers -/
def rowL (k : Nat) : List Int :=
  match k with
  | 1 => [60, 0, 0, 0, 0, 100, 30, 5, 0, 0]
  | 2 => [10, 3, 1, 1, 4, 10, 6, 3, 0, 1]
  | 3 => [20, 2, 1, 4, 4, 20, 8, 4, 0, 5]
  | 4 => [12, 2, 4, 3, 6, 25, 10, 5, 1, 5]
  | 5 => [40, 0, 0, 0, 0, 40, 12, 3, 0, 2]
  | _ => [0, 0, 0, 0, 0, 0, 0, 0, 0, 0]
def boltB (k : Nat) : Bool := match k with | 4 => true | _ => false
def isB (k : Nat) : Bool := match k with | 1 => true | 2 => true | 3 => true | 4 => true | 5 => true | _ => false
/-- a number of a row -/
def rr (k j : Nat) : Int := (rowL k).getD j 0
/-- a row's cells -/
def kcells (k : Nat) : Array Value := #[.int .i64 (rr k 0), .int .i64 (rr k 1), .int .i64 (rr k 2), .int .i64 (rr k 3), .int .i64 (rr k 4), .int .i64 (rr k 5), .int .i64 (rr k 6), .int .i64 (rr k 7), .int .i64 (rr k 8), .int .u8 (rr k 9), .bool (boltB k)]
/-- the table lies in its variable -/
def RTab (w : World) : Prop := ∀ k, k < 6 → ∀ j, j < 11 → w.cell? ⟨1, 11 * k + j, none⟩ = some ((kcells k).getD j undef)
theorem RTab.keep {w w1 : World} (h : RTab w) (hb : Below w.heap.size w w1) : RTab w1 := fun k hk j hj => by
  have hc := h k hk j hj
  exact (hb.cell (World.block_lt_of_cell? w _ hc)).trans hc
theorem RTab.lt {w : World} (h : RTab w) : 1 < w.heap.size := World.block_lt_of_cell? w _ (h 0 (by omega) 0 (by omega))
set_option maxRecDepth 100000 in
theorem of_0 (w : World) (ht : RTab w) : Calls Tryd.prog 11 #[.int .u8 0] w fun e w' => e = .returned (.tuple #[.agg (kcells 0), .bool (isB 0)]) ∧ Below w.heap.size w w' := by
  have hlt := ht.lt
  have c0 := ht 0 (by omega) 0 (by omega); have c1 := ht 0 (by omega) 1 (by omega); have c2 := ht 0 (by omega) 2 (by omega); have c3 := ht 0 (by omega) 3 (by omega); have c4 := ht 0 (by omega) 4 (by omega); have c5 := ht 0 (by omega) 5 (by omega); have c6 := ht 0 (by omega) 6 (by omega); have c7 := ht 0 (by omega) 7 (by omega); have c8 := ht 0 (by omega) 8 (by omega); have c9 := ht 0 (by omega) 9 (by omega); have c10 := ht 0 (by omega) 10 (by omega)
  simp [kcells, rr, rowL, boltB] at c0 c1 c2 c3 c4 c5 c6 c7 c8 c9 c10
  clear ht
  go_enter Tryd.func11, Tryd.ntmps11
  go_wp2
  exact bodyPost_ret (v := .tuple #[.agg (kcells 0), .bool (isB 0)]) (by simp [results, Tryd.results11, go_sem, kcells, rr, rowL, boltB, isB]) rfl ⟨rfl, ((Below.refl _ _).alloc (Nat.le_refl _) _)⟩
set_option maxRecDepth 100000 in
theorem of_1 (w : World) (ht : RTab w) : Calls Tryd.prog 11 #[.int .u8 1] w fun e w' => e = .returned (.tuple #[.agg (kcells 1), .bool (isB 1)]) ∧ Below w.heap.size w w' := by
  have hlt := ht.lt
  have c0 := ht 1 (by omega) 0 (by omega); have c1 := ht 1 (by omega) 1 (by omega); have c2 := ht 1 (by omega) 2 (by omega); have c3 := ht 1 (by omega) 3 (by omega); have c4 := ht 1 (by omega) 4 (by omega); have c5 := ht 1 (by omega) 5 (by omega); have c6 := ht 1 (by omega) 6 (by omega); have c7 := ht 1 (by omega) 7 (by omega); have c8 := ht 1 (by omega) 8 (by omega); have c9 := ht 1 (by omega) 9 (by omega); have c10 := ht 1 (by omega) 10 (by omega)
  simp [kcells, rr, rowL, boltB] at c0 c1 c2 c3 c4 c5 c6 c7 c8 c9 c10
  clear ht
  go_enter Tryd.func11, Tryd.ntmps11
  go_wp2
  exact bodyPost_ret (v := .tuple #[.agg (kcells 1), .bool (isB 1)]) (by simp [results, Tryd.results11, go_sem, kcells, rr, rowL, boltB, isB]) rfl ⟨rfl, ((Below.refl _ _).alloc (Nat.le_refl _) _)⟩
set_option maxRecDepth 100000 in
theorem of_2 (w : World) (ht : RTab w) : Calls Tryd.prog 11 #[.int .u8 2] w fun e w' => e = .returned (.tuple #[.agg (kcells 2), .bool (isB 2)]) ∧ Below w.heap.size w w' := by
  have hlt := ht.lt
  have c0 := ht 2 (by omega) 0 (by omega); have c1 := ht 2 (by omega) 1 (by omega); have c2 := ht 2 (by omega) 2 (by omega); have c3 := ht 2 (by omega) 3 (by omega); have c4 := ht 2 (by omega) 4 (by omega); have c5 := ht 2 (by omega) 5 (by omega); have c6 := ht 2 (by omega) 6 (by omega); have c7 := ht 2 (by omega) 7 (by omega); have c8 := ht 2 (by omega) 8 (by omega); have c9 := ht 2 (by omega) 9 (by omega); have c10 := ht 2 (by omega) 10 (by omega)
  simp [kcells, rr, rowL, boltB] at c0 c1 c2 c3 c4 c5 c6 c7 c8 c9 c10
  clear ht
  go_enter Tryd.func11, Tryd.ntmps11
  go_wp2
  exact bodyPost_ret (v := .tuple #[.agg (kcells 2), .bool (isB 2)]) (by simp [results, Tryd.results11, go_sem, kcells, rr, rowL, boltB, isB]) rfl ⟨rfl, ((Below.refl _ _).alloc (Nat.le_refl _) _)⟩
set_option maxRecDepth 100000 in
theorem of_3 (w : World) (ht : RTab w) : Calls Tryd.prog 11 #[.int .u8 3] w fun e w' => e = .returned (.tuple #[.agg (kcells 3), .bool (isB 3)]) ∧ Below w.heap.size w w' := by
  have hlt := ht.lt
  have c0 := ht 3 (by omega) 0 (by omega); have c1 := ht 3 (by omega) 1 (by omega); have c2 := ht 3 (by omega) 2 (by omega); have c3 := ht 3 (by omega) 3 (by omega); have c4 := ht 3 (by omega) 4 (by omega); have c5 := ht 3 (by omega) 5 (by omega); have c6 := ht 3 (by omega) 6 (by omega); have c7 := ht 3 (by omega) 7 (by omega); have c8 := ht 3 (by omega) 8 (by omega); have c9 := ht 3 (by omega) 9 (by omega); have c10 := ht 3 (by omega) 10 (by omega)
  simp [kcells, rr, rowL, boltB] at c0 c1 c2 c3 c4 c5 c6 c7 c8 c9 c10
  clear ht
  go_enter Tryd.func11, Tryd.ntmps11
  go_wp2
  exact bodyPost_ret (v := .tuple #[.agg (kcells 3), .bool (isB 3)]) (by simp [results, Tryd.results11, go_sem, kcells, rr, rowL, boltB, isB]) rfl ⟨rfl, ((Below.refl _ _).alloc (Nat.le_refl _) _)⟩
set_option maxRecDepth 100000 in
theorem of_4 (w : World) (ht : RTab w) : Calls Tryd.prog 11 #[.int .u8 4] w fun e w' => e = .returned (.tuple #[.agg (kcells 4), .bool (isB 4)]) ∧ Below w.heap.size w w' := by
  have hlt := ht.lt
  have c0 := ht 4 (by omega) 0 (by omega); have c1 := ht 4 (by omega) 1 (by omega); have c2 := ht 4 (by omega) 2 (by omega); have c3 := ht 4 (by omega) 3 (by omega); have c4 := ht 4 (by omega) 4 (by omega); have c5 := ht 4 (by omega) 5 (by omega); have c6 := ht 4 (by omega) 6 (by omega); have c7 := ht 4 (by omega) 7 (by omega); have c8 := ht 4 (by omega) 8 (by omega); have c9 := ht 4 (by omega) 9 (by omega); have c10 := ht 4 (by omega) 10 (by omega)
  simp [kcells, rr, rowL, boltB] at c0 c1 c2 c3 c4 c5 c6 c7 c8 c9 c10
  clear ht
  go_enter Tryd.func11, Tryd.ntmps11
  go_wp2
  exact bodyPost_ret (v := .tuple #[.agg (kcells 4), .bool (isB 4)]) (by simp [results, Tryd.results11, go_sem, kcells, rr, rowL, boltB, isB]) rfl ⟨rfl, ((Below.refl _ _).alloc (Nat.le_refl _) _)⟩
set_option maxRecDepth 100000 in
theorem of_5 (w : World) (ht : RTab w) : Calls Tryd.prog 11 #[.int .u8 5] w fun e w' => e = .returned (.tuple #[.agg (kcells 5), .bool (isB 5)]) ∧ Below w.heap.size w w' := by
  have hlt := ht.lt
  have c0 := ht 5 (by omega) 0 (by omega); have c1 := ht 5 (by omega) 1 (by omega); have c2 := ht 5 (by omega) 2 (by omega); have c3 := ht 5 (by omega) 3 (by omega); have c4 := ht 5 (by omega) 4 (by omega); have c5 := ht 5 (by omega) 5 (by omega); have c6 := ht 5 (by omega) 6 (by omega); have c7 := ht 5 (by omega) 7 (by omega); have c8 := ht 5 (by omega) 8 (by omega); have c9 := ht 5 (by omega) 9 (by omega); have c10 := ht 5 (by omega) 10 (by omega)
  simp [kcells, rr, rowL, boltB] at c0 c1 c2 c3 c4 c5 c6 c7 c8 c9 c10
  clear ht
  go_enter Tryd.func11, Tryd.ntmps11
  go_wp2
  exact bodyPost_ret (v := .tuple #[.agg (kcells 5), .bool (isB 5)]) (by simp [results, Tryd.results11, go_sem, kcells, rr, rowL, boltB, isB]) rfl ⟨rfl, ((Below.refl _ _).alloc (Nat.le_refl _) _)⟩
set_option maxRecDepth 100000 in
theorem of_more (k : Int) (h : 6 ≤ k) (h2 : k ≤ 255) (w : World) : Calls Tryd.prog 11 #[.int .u8 k] w fun e w' => e = .returned (.tuple #[.agg (kcells 0), .bool false]) ∧ Below w.heap.size w w' := by
  go_enter Tryd.func11, Tryd.ntmps11
  go_wp2
  exact bodyPost_ret (v := .tuple #[.agg (kcells 0), .bool false]) (by simp [results, Tryd.results11, go_sem, kcells, rr, rowL, boltB]) rfl ⟨rfl, (Below.refl _ _).alloc (Nat.le_refl _) _⟩
theorem kc_more (k : Nat) (h : 6 ≤ k) : kcells k = kcells 0 ∧ isB k = false ∧ (∀ j, rr k j = rr 0 j) ∧ boltB k = false := by
  obtain ⟨m, rfl⟩ : ∃ m, k = m + 6 := ⟨k - 6, by omega⟩
  exact ⟨rfl, rfl, fun _ => rfl, rfl⟩
theorem of_any (k : Nat) (h2 : k ≤ 255) (w : World) (ht : RTab w) : Calls Tryd.prog 11 #[.int .u8 (k : Int)] w fun e w' => e = .returned (.tuple #[.agg (kcells k), .bool (isB k)]) ∧ Below w.heap.size w w' := by
  by_cases h : 6 ≤ k
  · obtain ⟨e1, e2, -, -⟩ := kc_more k h
    rw [e1, e2]
    exact of_more k (by omega) (by omega) w
  · obtain h | h | h | h | h | h : k = 0 ∨ k = 1 ∨ k = 2 ∨ k = 3 ∨ k = 4 ∨ k = 5 := by omega
    all_goals subst h
    · exact of_0 w ht
    · exact of_1 w ht
    · exact of_2 w ht
    · exact of_3 w ht
    · exact of_4 w ht
    · exact of_5 w ht
end Go.Proofs.YtfdbibddhneklaaDoor
