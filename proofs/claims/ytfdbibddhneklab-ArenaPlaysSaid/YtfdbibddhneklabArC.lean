import Derived.Test.YtfdbibddhneklabArB
namespace Go.Proofs.Ytfdbibddhneklab.Arena
open Go.RowKit
set_option linter.unusedVariables false
set_option linter.unusedSimpArgs false
set_option maxRecDepth 100000
set_option maxHeartbeats 1000000

theorem get_any (L : List Sl) (k : Nat) (hL : L.length = 128) (hk : k < 65536) (w : World) : Calls Try.prog 13 #[.agg (acs L), .int .u16 k] w fun e w' => e = .returned (.tuple #[.int .i64 (if has L k = true then sX L (k % 128) else 0), .bool (has L k)]) ∧ Below w.heap.size w w' := by
  have hm : k % 128 < 128 := Nat.mod_lt _ (by omega)
  have HI := Lib.hid (info29 L hL)
  have HC := Lib.hid (fun W => find_any L k hL hk W)
  obtain ⟨j, hj⟩ : ∃ j, j = k % 128 := ⟨_, rfl⟩
  rw [← hj] at hm HC ⊢
  clear hj
  have k0 : (0 : Int) ≤ (j : Int) := by omega
  have k1 : (j : Int) < 128 := by omega
  have HL := Lib.hid hL
  have P0 := Lib.hid (lies_new w L w.heap.size rfl)
  have HB := Lib.hid ((Below.refl w.heap.size w).alloc (Nat.le_refl _) (.cells (acs L) 29))
  clear hL
  cases hh : has L k
  · rw [if_neg (by simp)]
    rw [hh] at HC
    go_enter Try.func13, Try.ntmps13
    go_wp2_with (refine wpList_load_row rfl 29 (.tmp 2) rfl _ rfl _ _ _ _ P0.out Try.underlying29 rfl HI.out ?_)
    refine (HC.out _).mono ?_; rintro e w1 ⟨rfl, b⟩
    have HB := Lib.hid (bnext HB.out (Nat.le_refl _) b)
    clear b
    go_wp2_with fail
    go_ret2
    exact ⟨rfl, HB.out⟩
  · rw [if_pos rfl]
    rw [hh] at HC
    go_enter Try.func13, Try.ntmps13
    go_wp2_with (refine wpList_load_row rfl 29 (.tmp 2) rfl _ rfl _ _ _ _ P0.out Try.underlying29 rfl HI.out ?_)
    refine (HC.out _).mono ?_; rintro e w1 ⟨rfl, b⟩
    have HB := Lib.hid (bnext HB.out (Nat.le_refl _) b)
    have P0 := Lib.hid (P0.out.next b)
    have l0 := P0.out.lt
    have c0 := P0.out.cell (j * 3)
    rw [acs_get0 L j (by rw [HL.out]; omega)] at c0
    clear b
    go_wp2_with fail
    go_ret2
    exact ⟨rfl, HB.out⟩

def genOf (L : List Sl) (i : Int) : Int := if 0 ≤ i ∧ i < 128 then sG L i.toNat else -1
theorem gen_any (L : List Sl) (i : Int) (hL : L.length = 128) (hg : ∀ k, k < 128 → 0 ≤ sG L k ∧ sG L k < 65536) (w : World) : Calls Try.prog 39 #[.agg (acs L), .int .i64 i] w fun e w' => e = .returned (.int .i64 (genOf L i)) ∧ Below w.heap.size w w' := by
  unfold genOf
  by_cases h0 : 0 ≤ i
  · by_cases h1 : i < 128
    · rw [if_pos ⟨h0, h1⟩]
      obtain ⟨j, rfl⟩ := Int.eq_ofNat_of_zero_le h0
      have g1 := acs_get1 L j (by omega)
      have hw : wrap64 (sG L j) = sG L j := by have := hg j (by omega); unfold wrap64; omega
      have n0 : ¬ (j : Int) < 0 := by omega
      have n1 : ¬ (128 : Int) ≤ (j : Int) := by omega
      have k0 : (0 : Int) ≤ (j : Int) := by omega
      clear hL hg
      go_enter Try.func39, Try.ntmps39
      go_wp2_with fail
      go_ret
      exact ⟨by simp [hw], (Below.refl _ _).alloc (Nat.le_refl _) _⟩
    · rw [if_neg (fun h => h1 h.2)]
      have n0 : ¬ i < 0 := by omega
      have n1 : (128 : Int) ≤ i := by omega
      clear hL hg
      go_enter Try.func39, Try.ntmps39
      go_wp2_with fail
      go_ret
      exact ⟨rfl, (Below.refl _ _).alloc (Nat.le_refl _) _⟩
  · rw [if_neg (fun h => h0 h.1)]
    have n0 : i < 0 := by omega
    clear hL hg
    go_enter Try.func39, Try.ntmps39
    go_wp2_with fail
    go_ret
    exact ⟨rfl, (Below.refl _ _).alloc (Nat.le_refl _) _⟩
def freeOf (L : List Sl) (i : Int) : Bool := decide (0 ≤ i ∧ i < 128) && !sU L i.toNat
theorem free_any (L : List Sl) (i : Int) (hL : L.length = 128) (w : World) : Calls Try.prog 40 #[.agg (acs L), .int .i64 i] w fun e w' => e = .returned (.bool (freeOf L i)) ∧ Below w.heap.size w w' := by
  unfold freeOf
  by_cases h0 : 0 ≤ i
  · by_cases h1 : i < 128
    · rw [decide_eq_true ⟨h0, h1⟩]
      obtain ⟨j, rfl⟩ := Int.eq_ofNat_of_zero_le h0
      have g2 := acs_get2 L j (by omega)
      clear hL
      cases hu : sU L j
      · rw [hu] at g2
        go_enter Try.func40, Try.ntmps40
        go_wp2_with fail
        go_ret
        exact ⟨by simp [hu], (Below.refl _ _).alloc (Nat.le_refl _) _⟩
      · rw [hu] at g2
        go_enter Try.func40, Try.ntmps40
        go_wp2_with fail
        go_ret
        exact ⟨by simp [hu], (Below.refl _ _).alloc (Nat.le_refl _) _⟩
    · rw [decide_eq_false (fun h => h1 h.2)]
      clear hL
      go_enter Try.func40, Try.ntmps40
      go_wp2_with fail
      go_ret
      exact ⟨rfl, (Below.refl _ _).alloc (Nat.le_refl _) _⟩
  · rw [decide_eq_false (fun h => h0 h.1)]
    clear hL
    go_enter Try.func40, Try.ntmps40
    go_wp2_with fail
    go_ret
    exact ⟨rfl, (Below.refl _ _).alloc (Nat.le_refl _) _⟩
end Go.Proofs.Ytfdbibddhneklab.Arena
