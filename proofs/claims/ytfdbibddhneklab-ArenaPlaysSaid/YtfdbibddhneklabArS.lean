import Derived.Test.YtfdbibddhneklabArQ
import Derived.Laws.CopyOwn
namespace Go.Proofs.Ytfdbibddhneklab.Arena
open Go.RowKit
set_option linter.unusedVariables false
set_option linter.unusedSimpArgs false
set_option maxRecDepth 100000
set_option maxHeartbeats 1000000
theorem set3 (L : List Sl) (j : Nat) (hj : j < L.length) (a b : Sl) : (L.set j a).set j b = L.set j b := by
  apply List.ext_getElem
  · simp
  · intro i h1 h2; simp only [List.getElem_set]; split <;> rfl
theorem sX_set (L : List Sl) (j : Nat) (hj : j < L.length) (x g : Int) (u : Bool) : sX (L.set j (x, g, u)) j = x ∧ sG (L.set j (x, g, u)) j = g ∧ sU (L.set j (x, g, u)) j = u := by
  unfold sX sG sU
  simp [List.getD_eq_getElem?_getD, hj]

def dropR (L : List Sl) (k : Nat) : List Sl := if hasR L k = true then L.set (k % 128) (0, sG L (k % 128) + 1, false) else L
theorem dropR_any (L : List Sl) (k : Nat) (hL : L.length = 128) (hk : k < 65536) (hg : ∀ j, j < 128 → 0 ≤ sG L j ∧ sG L j ≤ 1000) (w : World) : Calls Try.prog 26 #[.agg (rcs L), .int .i64 k] w fun e w' => e = .returned (.agg (rcs (dropR L k))) ∧ Below w.heap.size w w' := by
  have hm : k % 128 < 128 := Nat.mod_lt _ (by omega)
  have HI := Lib.hid (info67 L hL)
  have HC := Lib.hid (fun W => hasR_any L k hL hk W)
  have HM : (k : Int).tmod 128 = ((k % 128 : Nat) : Int) := by rw [Int.tmod_eq_emod_of_nonneg (by omega)]; omega
  have HL := Lib.hid hL
  have P0 := Lib.hid (liesR_past _ (.cells (rcs Z0) 67) L w.heap.size (liesR_new w L w.heap.size rfl))
  have P1 := Lib.hid (liesR_new (w.alloc (.cells (rcs L) 67)) Z0 (w.heap.size + 1) (by simp))
  have HB := Lib.hid (((Below.refl w.heap.size w).alloc (Nat.le_refl _) (.cells (rcs L) 67)).alloc (by simp) (.cells (rcs Z0) 67))
  have hz := zero67' (w.alloc (.cells (rcs L) 67))
  cases hh : hasR L k
  · have hD : dropR L k = L := by simp [dropR, hh]
    rw [hD]
    rw [hh] at HC
    have HZ := Lib.hid (show (rcs Z0).size = (rcs L).size by rw [rcs_size, rcs_size, HL.out, Z0_len])
    clear hL hg
    go_enter Try.func26, Try.ntmps26
    go_wp2_with (refine wpList_load_row rfl 67 (.tmp 2) rfl _ rfl _ _ _ _ P0.out Try.underlying67 rfl HI.out ?_)
    refine (HC.out _).mono ?_; rintro e w1 ⟨rfl, b⟩
    have P0 := Lib.hid (P0.out.next b)
    have P1 := Lib.hid (P1.out.next b)
    have HB := Lib.hid (bnext HB.out (Nat.le_refl _) b)
    clear b hz
    go_wp2_with (first | (refine wpList_load_row rfl 67 (.tmp 2) rfl _ rfl _ _ _ _ P0.out Try.underlying67 rfl HI.out ?_) | (refine wpList_store_row rfl 67 (.tmp 4) (.tmp 25) rfl _ _ rfl rfl _ _ P1.out HI.out HZ.out (rcs_one _) ?_))
    have hR := setRow_heap w1 (w.heap.size + 1) (rcs Z0) (rcs L) 67 (0, 0) P1.out
    exact bodyPost_ret (results_cell_row rfl _ _ _ _ _ _ _ rfl hR Try.underlying67 rfl HI.out) rfl ⟨rfl, below_setRow HB.out (by omega) _⟩
  · have hD : dropR L k = L.set (k % 128) (0, sG L (k % 128) + 1, false) := by simp [dropR, hh]
    rw [hD]
    rw [hh] at HC
    obtain ⟨j, hj⟩ : ∃ j, j = k % 128 := ⟨_, rfl⟩
    rw [← hj] at hm HM ⊢
    clear hj
    have k0 : (0 : Int) ≤ (j : Int) := by omega
    have k1 : (j : Int) < 128 := by omega
    obtain ⟨g0, g1⟩ := hg j hm
    have hjl : j < L.length := by omega
    obtain ⟨LA, hLA⟩ : ∃ A, A = L.set j (sX L j, sG L j, false) := ⟨_, rfl⟩
    obtain ⟨LB, hLB⟩ : ∃ A, A = L.set j (0, sG L j, false) := ⟨_, rfl⟩
    obtain ⟨LC, hLC⟩ : ∃ A, A = L.set j (0, sG L j + 1, false) := ⟨_, rfl⟩
    rw [← hLC]
    have lA : LA.length = 128 := by rw [hLA, List.length_set]; exact HL.out
    have lB : LB.length = 128 := by rw [hLB, List.length_set]; exact HL.out
    have lC : LC.length = 128 := by rw [hLC, List.length_set]; exact HL.out
    have sA := sX_set L j hjl (sX L j) (sG L j) false
    rw [← hLA] at sA
    have sB := sX_set L j hjl 0 (sG L j) false
    rw [← hLB] at sB
    have eB : LA.set j (0, sG LA j, sU LA j) = LB := by rw [sA.2.1, sA.2.2, hLA, hLB, set3 _ _ hjl]
    have eC : LB.set j (sX LB j, sG LB j + 1, sU LB j) = LC := by rw [sB.1, sB.2.1, sB.2.2, hLB, hLC, set3 _ _ hjl]
    have HE := Lib.hid (And.intro eB eC)
    have HA := Lib.hid hLA
    have lg := Lib.hid lA
    have lgB := Lib.hid lB
    have HK := Lib.hid (info67 LC lC)
    have HY := Lib.hid (show (rcs Z0).size = (rcs LC).size by rw [rcs_size, rcs_size, lC, Z0_len])
    have gB := rcs_g LB lB j hm
    rw [sB.2.1] at gB
    have sBg := Lib.hid sB.2.1
    have hw : wrap64 (sG L j + 1) = sG L j + 1 := by unfold wrap64; omega
    clear hL hg hLA hLB hLC lA lB lC sA sB eB eC
    go_enter Try.func26, Try.ntmps26
    go_wp2_with (refine wpList_load_row rfl 67 (.tmp 2) rfl _ rfl _ _ _ _ P0.out Try.underlying67 rfl HI.out ?_)
    refine (HC.out _).mono ?_; rintro e w1 ⟨rfl, b⟩
    have P0 := Lib.hid (P0.out.next b)
    have P1 := Lib.hid (P1.out.next b)
    have HB := Lib.hid (bnext HB.out (Nat.le_refl _) b)
    have l0 := P0.out.lt
    have c2 := P0.out.cell (256 + j)
    rw [rcs_u L HL.out j hm] at c2
    have c1 := P0.out.cell (128 + j)
    rw [rcs_x L HL.out j hm] at c1
    have c0 := P0.out.cell j
    rw [rcs_g L HL.out j hm] at c0
    have f0 := P0.out.frozen j
    have f1 := P0.out.frozen (128 + j)
    have f2 := P0.out.frozen (256 + j)
    have q1 := P0.out.setu HL.out j hm false
    rw [← HA.out] at q1
    have q2 := q1.setx lg.out j hm 0
    rw [HE.out.1] at q2
    have q3 := q2.setg lgB.out j hm (sG L j + 1)
    rw [show sG L j + 1 = sG LB j + 1 by rw [sBg.out], HE.out.2, sBg.out] at q3
    have Q0 := Lib.hid q3
    have Q1 := Lib.hid (((P1.out.far ⟨w.heap.size, 256 + j, none⟩ (.bool false) (by simp)).far ⟨w.heap.size, 128 + j, none⟩ (.int .i64 0) (by simp)).far ⟨w.heap.size, j, none⟩ (.int .i64 (sG L j + 1)) (by simp))
    have HB2 := Lib.hid (((HB.out.setCell (p := ⟨w.heap.size, 256 + j, none⟩) (Nat.le_refl _) (.bool false)).setCell (p := ⟨w.heap.size, 128 + j, none⟩) (Nat.le_refl _) (.int .i64 0)).setCell (p := ⟨w.heap.size, j, none⟩) (Nat.le_refl _) (.int .i64 (sG L j + 1)))
    clear b hz q1 q2 q3 gB
    go_wp2_with (first | (refine wpList_load_row rfl 67 (.tmp 2) rfl _ rfl _ _ _ _ Q0.out Try.underlying67 rfl HK.out ?_) | (refine wpList_store_row rfl 67 (.tmp 4) (.tmp 25) rfl _ _ rfl rfl _ _ Q1.out HK.out HY.out (rcs_one _) ?_))
    have hR := setRow_heap _ (w.heap.size + 1) (rcs Z0) (rcs LC) 67 (0, 0) Q1.out
    exact bodyPost_ret (results_cell_row rfl _ _ _ _ _ _ _ rfl hR Try.underlying67 rfl HK.out) rfl ⟨rfl, below_setRow HB2.out (by omega) _⟩

def setL (L : List Sl) (k : Nat) (x : Int) : List Sl := if has L k = true then L.set (k % 128) (x, sG L (k % 128), sU L (k % 128)) else L
def setR (L : List Sl) (k : Nat) (x : Int) : List Sl := if hasR L k = true then L.set (k % 128) (x, sG L (k % 128), sU L (k % 128)) else L
theorem setR_any (L : List Sl) (k : Nat) (x : Int) (hL : L.length = 128) (hk : k < 65536) (w : World) : Calls Try.prog 28 #[.agg (rcs L), .int .i64 k, .int .i64 x] w fun e w' => e = .returned (.agg (rcs (setR L k x))) ∧ Below w.heap.size w w' := by
  have hm : k % 128 < 128 := Nat.mod_lt _ (by omega)
  have HI := Lib.hid (info67 L hL)
  have HC := Lib.hid (fun W => hasR_any L k hL hk W)
  have HM : (k : Int).tmod 128 = ((k % 128 : Nat) : Int) := by rw [Int.tmod_eq_emod_of_nonneg (by omega)]; omega
  have HL := Lib.hid hL
  have P0 := Lib.hid (liesR_past _ (.cells (rcs Z0) 67) L w.heap.size (liesR_new w L w.heap.size rfl))
  have P1 := Lib.hid (liesR_new (w.alloc (.cells (rcs L) 67)) Z0 (w.heap.size + 1) (by simp))
  have HB := Lib.hid (((Below.refl w.heap.size w).alloc (Nat.le_refl _) (.cells (rcs L) 67)).alloc (by simp) (.cells (rcs Z0) 67))
  have hz := zero67' (w.alloc (.cells (rcs L) 67))
  cases hh : hasR L k
  · have hD : setR L k x = L := by simp [setR, hh]
    rw [hD]
    rw [hh] at HC
    have HZ := Lib.hid (show (rcs Z0).size = (rcs L).size by rw [rcs_size, rcs_size, HL.out, Z0_len])
    clear hL
    go_enter Try.func28, Try.ntmps28
    go_wp2_with (refine wpList_load_row rfl 67 (.tmp 3) rfl _ rfl _ _ _ _ P0.out Try.underlying67 rfl HI.out ?_)
    refine (HC.out _).mono ?_; rintro e w1 ⟨rfl, b⟩
    have P0 := Lib.hid (P0.out.next b)
    have P1 := Lib.hid (P1.out.next b)
    have HB := Lib.hid (bnext HB.out (Nat.le_refl _) b)
    clear b hz
    go_wp2_with (first | (refine wpList_load_row rfl 67 (.tmp 3) rfl _ rfl _ _ _ _ P0.out Try.underlying67 rfl HI.out ?_) | (refine wpList_store_row rfl 67 (.tmp 6) (.tmp 15) rfl _ _ rfl rfl _ _ P1.out HI.out HZ.out (rcs_one _) ?_))
    have hR := setRow_heap w1 (w.heap.size + 1) (rcs Z0) (rcs L) 67 (0, 0) P1.out
    exact bodyPost_ret (results_cell_row rfl _ _ _ _ _ _ _ rfl hR Try.underlying67 rfl HI.out) rfl ⟨rfl, below_setRow HB.out (by omega) _⟩
  · have hD : setR L k x = L.set (k % 128) (x, sG L (k % 128), sU L (k % 128)) := by simp [setR, hh]
    rw [hD]
    rw [hh] at HC
    obtain ⟨j, hj⟩ : ∃ j, j = k % 128 := ⟨_, rfl⟩
    rw [← hj] at hm HM ⊢
    clear hj
    have k0 : (0 : Int) ≤ (j : Int) := by omega
    have k1 : (j : Int) < 128 := by omega
    obtain ⟨LC, hLC⟩ : ∃ A, A = L.set j (x, sG L j, sU L j) := ⟨_, rfl⟩
    rw [← hLC]
    have lC : LC.length = 128 := by rw [hLC, List.length_set]; exact HL.out
    have HK := Lib.hid (info67 LC lC)
    have HY := Lib.hid (show (rcs Z0).size = (rcs LC).size by rw [rcs_size, rcs_size, lC, Z0_len])
    have HE := Lib.hid hLC
    clear hL hLC lC
    go_enter Try.func28, Try.ntmps28
    go_wp2_with (refine wpList_load_row rfl 67 (.tmp 3) rfl _ rfl _ _ _ _ P0.out Try.underlying67 rfl HI.out ?_)
    refine (HC.out _).mono ?_; rintro e w1 ⟨rfl, b⟩
    have P0 := Lib.hid (P0.out.next b)
    have P1 := Lib.hid (P1.out.next b)
    have HB := Lib.hid (bnext HB.out (Nat.le_refl _) b)
    have l0 := P0.out.lt
    have c1 := P0.out.cell (128 + j)
    rw [rcs_x L HL.out j hm] at c1
    have f1 := P0.out.frozen (128 + j)
    have q1 := P0.out.setx HL.out j hm x
    rw [← HE.out] at q1
    have Q0 := Lib.hid q1
    have Q1 := Lib.hid (P1.out.far ⟨w.heap.size, 128 + j, none⟩ (.int .i64 x) (by simp))
    have HB2 := Lib.hid (HB.out.setCell (p := ⟨w.heap.size, 128 + j, none⟩) (Nat.le_refl _) (.int .i64 x))
    clear b hz q1
    go_wp2_with (first | (refine wpList_load_row rfl 67 (.tmp 3) rfl _ rfl _ _ _ _ Q0.out Try.underlying67 rfl HK.out ?_) | (refine wpList_store_row rfl 67 (.tmp 6) (.tmp 15) rfl _ _ rfl rfl _ _ Q1.out HK.out HY.out (rcs_one _) ?_))
    have hR := setRow_heap _ (w.heap.size + 1) (rcs Z0) (rcs LC) 67 (0, 0) Q1.out
    exact bodyPost_ret (results_cell_row rfl _ _ _ _ _ _ _ rfl hR Try.underlying67 rfl HK.out) rfl ⟨rfl, below_setRow HB2.out (by omega) _⟩
end Go.Proofs.Ytfdbibddhneklab.Arena
