import Derived.Test.YtfdbibddhneklabArA
import Derived.Laws.CopyOwn
namespace Go.Proofs.Ytfdbibddhneklab.Arena
open Go.RowKit
set_option linter.unusedVariables false
set_option linter.unusedSimpArgs false
set_option maxRecDepth 100000
set_option maxHeartbeats 1000000
theorem below_putSlot {B g : Nat} {w0 w : World} (hb : Below B w0 w) (hB : B ≤ g) (i : Nat) (x y : Int) (u : Bool) : Below B w0 (((w.setCell ⟨g, i * 3, none⟩ (.int .i64 x)).setCell ⟨g, i * 3 + 1, none⟩ (.int .u16 y)).setCell ⟨g, i * 3 + 2, none⟩ (.bool u)) :=
  ((hb.setCell hB _).setCell hB _).setCell hB _
theorem zero29 (W : World) : (zeroValue 29).run Try.prog W = .ok (.agg (acs (List.replicate 128 (0, 0, false)))) W := by kernel_rfl
def Z0 : List Sl := List.replicate 128 (0, 0, false)
theorem Z0_len : Z0.length = 128 := by simp [Z0]
theorem zero29' (W : World) : (zeroValue 29).run Try.prog W = .ok (.agg (acs Z0)) W := zero29 W
/-- a row of slots lies in a block -/
def Lies (W : World) (g : Nat) (L : List Sl) : Prop := W.heap[g]? = some (.cells (acs L) 29 (0, 0))
theorem Lies.next {W W' : World} {g : Nat} {L : List Sl} (h : Lies W g L) (hb : Below W.heap.size W W') : Lies W' g L := by
  have hlt : g < W.heap.size := (Array.getElem?_eq_some_iff.1 h).1
  exact (hb.block g hlt).trans h
theorem Lies.lt {W : World} {g : Nat} {L : List Sl} (h : Lies W g L) : g < W.heap.size := (Array.getElem?_eq_some_iff.1 h).1
theorem Lies.cell {W : World} {g : Nat} {L : List Sl} (h : Lies W g L) (i : Nat) : W.cell? ⟨g, i, none⟩ = (acs L)[i]? := cell_of_row W g i _ 29 (0, 0) h
theorem Lies.frozen {W : World} {g : Nat} {L : List Sl} (h : Lies W g L) (i : Nat) : W.frozen? ⟨g, i, none⟩ = false := frozen_of_row W g i _ 29 h
theorem Lies.put {W : World} {g : Nat} {L : List Sl} (h : Lies W g L) (k : Nat) (x y : Int) (u : Bool) (hk : k < L.length) :
    Lies (((W.setCell ⟨g, k * 3, none⟩ (.int .i64 x)).setCell ⟨g, k * 3 + 1, none⟩ (.int .u16 y)).setCell ⟨g, k * 3 + 2, none⟩ (.bool u)) g (L.set k (x, y, u)) := by
  unfold Lies
  rw [← acs_set L k x y u hk]
  exact heap_setCell_same _ _ _ _ _ _ (heap_setCell_same _ _ _ _ _ _ (heap_setCell_same _ _ _ _ _ _ h))
theorem Lies.far {W : World} {g : Nat} {L : List Sl} (h : Lies W g L) (a : Addr) (v : Value) (hne : g ≠ a.block) : Lies (W.setCell a v) g L := (heap_setCell_other W a g v hne).trans h
theorem lies_new (W : World) (L : List Sl) (n : Nat) (h : n = W.heap.size) : Lies (W.alloc (.cells (acs L) 29)) n L := heap_at W _ n h
theorem lies_past (W : World) (o : Obj) (L : List Sl) (n : Nat) (h : Lies W n L) : Lies (W.alloc o) n L := h.next ((Below.refl _ _).alloc (Nat.le_refl _) _)

def dropL (L : List Sl) (k : Nat) : List Sl := if has L k = true then L.set (k % 128) (0, (sG L (k % 128) + 1) % 65536, false) else L
theorem drop_any (L : List Sl) (k : Nat) (hL : L.length = 128) (hk : k < 65536) (w : World) : Calls Try.prog 10 #[.agg (acs L), .int .u16 k] w fun e w' => e = .returned (.agg (acs (dropL L k))) ∧ Below w.heap.size w w' := by
  have hm : k % 128 < 128 := Nat.mod_lt _ (by omega)
  have HI := Lib.hid (info29 L hL)
  have HJ := Lib.hid (fun L' (h' : L'.length = 128) => info29 L' h')
  have HC := Lib.hid (fun W => find_any L k hL hk W)
  cases hh : has L k
  · have hD : dropL L k = L := by simp [dropL, hh]
    rw [hD]
    rw [hh] at HC
    obtain ⟨j, hj⟩ : ∃ j, j = k % 128 := ⟨_, rfl⟩
    rw [← hj] at hm HC
    clear hj
    have g1 := acs_get1 L j (by omega)
    have k0 : (0 : Int) ≤ (j : Int) := by omega
    have k1 : (j : Int) < 128 := by omega
    have HL := Lib.hid hL
    have hz := zero29' (w.alloc (.cells (acs L) 29))
    obtain ⟨n0, hn0⟩ : ∃ n, n = w.heap.size := ⟨_, rfl⟩
    have P0 := Lib.hid (lies_past _ (.cells (acs Z0) 29) L w.heap.size (lies_new w L w.heap.size rfl))
    have P1 := Lib.hid (lies_new (w.alloc (.cells (acs L) 29)) Z0 (w.heap.size + 1) (by simp))
    have HB := Lib.hid (((Below.refl w.heap.size w).alloc (Nat.le_refl _) (.cells (acs L) 29)).alloc (by simp) (.cells (acs Z0) 29))
    clear hL
    go_enter Try.func10, Try.ntmps10
    go_wp2_with (refine wpList_load_row rfl 29 (.tmp 2) rfl _ rfl _ _ _ _ P0.out Try.underlying29 rfl HI.out ?_)
    refine (HC.out _).mono ?_; rintro e w1 ⟨rfl, b⟩
    have P0 := Lib.hid (P0.out.next b)
    have P1 := Lib.hid (P1.out.next b)
    have HB := Lib.hid (bnext HB.out (Nat.le_refl _) b)
    have l0 := P0.out.lt
    have c1 := P0.out.cell (j * 3 + 1)
    rw [g1] at c1
    clear b hz g1
    have c0 := P0.out.cell (j * 3)
    have c2 := P0.out.cell (j * 3 + 2)
    rw [acs_get0 L j (by rw [HL.out]; omega)] at c0
    rw [acs_get2 L j (by rw [HL.out]; omega)] at c2
    have f0 := P0.out.frozen (j * 3)
    have f1 := P0.out.frozen (j * 3 + 1)
    have f2 := P0.out.frozen (j * 3 + 2)
    have HZ := Lib.hid (show (acs Z0).size = (acs L).size by rw [acs_size, acs_size, HL.out, Z0_len])
    clear c0 c1 c2 f0 f1 f2
    go_wp2_with (first | (refine wpList_load_row rfl 29 (.tmp 2) rfl _ rfl _ _ _ _ P0.out Try.underlying29 rfl HI.out ?_) | (refine wpList_store_row rfl 29 (.tmp 4) (.tmp 24) rfl _ _ rfl rfl _ _ P1.out HI.out HZ.out (acs_one _) ?_))
    have hR := setRow_heap w1 (w.heap.size + 1) (acs Z0) (acs L) 29 (0, 0) P1.out
    exact bodyPost_ret (results_cell_row rfl _ _ _ _ _ _ _ rfl hR Try.underlying29 rfl HI.out) rfl ⟨rfl, below_setRow HB.out (by omega) _⟩
  · have hD : dropL L k = L.set (k % 128) (0, (sG L (k % 128) + 1) % 65536, false) := by simp [dropL, hh]
    rw [hD]
    rw [hh] at HC
    obtain ⟨j, hj⟩ : ∃ j, j = k % 128 := ⟨_, rfl⟩
    rw [← hj] at hm HC ⊢
    clear hj
    have g1 := acs_get1 L j (by omega)
    have k0 : (0 : Int) ≤ (j : Int) := by omega
    have k1 : (j : Int) < 128 := by omega
    have HL := Lib.hid hL
    have hz := zero29' (w.alloc (.cells (acs L) 29))
    obtain ⟨n0, hn0⟩ : ∃ n, n = w.heap.size := ⟨_, rfl⟩
    have P0 := Lib.hid (lies_past _ (.cells (acs Z0) 29) L w.heap.size (lies_new w L w.heap.size rfl))
    have P1 := Lib.hid (lies_new (w.alloc (.cells (acs L) 29)) Z0 (w.heap.size + 1) (by simp))
    have HB := Lib.hid (((Below.refl w.heap.size w).alloc (Nat.le_refl _) (.cells (acs L) 29)).alloc (by simp) (.cells (acs Z0) 29))
    clear hL
    go_enter Try.func10, Try.ntmps10
    go_wp2_with (refine wpList_load_row rfl 29 (.tmp 2) rfl _ rfl _ _ _ _ P0.out Try.underlying29 rfl HI.out ?_)
    refine (HC.out _).mono ?_; rintro e w1 ⟨rfl, b⟩
    have P0 := Lib.hid (P0.out.next b)
    have P1 := Lib.hid (P1.out.next b)
    have HB := Lib.hid (bnext HB.out (Nat.le_refl _) b)
    have l0 := P0.out.lt
    have c1 := P0.out.cell (j * 3 + 1)
    rw [g1] at c1
    clear b hz g1
    have c0 := P0.out.cell (j * 3)
    have c2 := P0.out.cell (j * 3 + 2)
    rw [acs_get0 L j (by rw [HL.out]; omega)] at c0
    rw [acs_get2 L j (by rw [HL.out]; omega)] at c2
    have f0 := P0.out.frozen (j * 3)
    have f1 := P0.out.frozen (j * 3 + 1)
    have f2 := P0.out.frozen (j * 3 + 2)
    have HZ := Lib.hid (show (acs Z0).size = (acs L).size by rw [acs_size, acs_size, HL.out, Z0_len])
    have hw : IntKind.u16.wrap (sG L j + 1) = (sG L j + 1) % 65536 := by simp [IntKind.wrap, IntKind.bits, IntKind.signed]
    have Q0 := Lib.hid (P0.out.put j 0 ((sG L j + 1) % 65536) false (by rw [HL.out]; omega))
    have Q1 := Lib.hid (((P1.out.far ⟨w.heap.size, j * 3, none⟩ (.int .i64 0) (by simp)).far ⟨w.heap.size, j * 3 + 1, none⟩ (.int .u16 ((sG L j + 1) % 65536)) (by simp)).far ⟨w.heap.size, j * 3 + 2, none⟩ (.bool false) (by simp))
    have HK := Lib.hid (HJ.out (L.set j (0, (sG L j + 1) % 65536, false)) (by rw [List.length_set]; exact HL.out))
    have HY := Lib.hid (show (acs Z0).size = (acs (L.set j (0, (sG L j + 1) % 65536, false))).size by rw [acs_size, acs_size, List.length_set, HL.out, Z0_len])
    have HB2 := Lib.hid (below_putSlot HB.out (Nat.le_refl _) j 0 ((sG L j + 1) % 65536) false)
    go_wp2_with (first | (refine wpList_load_row rfl 29 (.tmp 2) rfl _ rfl _ _ _ _ Q0.out Try.underlying29 rfl HK.out ?_) | (refine wpList_store_row rfl 29 (.tmp 4) (.tmp 24) rfl _ _ rfl rfl _ _ Q1.out HK.out HY.out (acs_one _) ?_))
    have hR := setRow_heap _ (w.heap.size + 1) (acs Z0) (acs (L.set j (0, (sG L j + 1) % 65536, false))) 29 (0, 0) Q1.out
    exact bodyPost_ret (results_cell_row rfl _ _ _ _ _ _ _ rfl hR Try.underlying29 rfl HK.out) rfl ⟨rfl, below_setRow HB2.out (by omega) _⟩
end Go.Proofs.Ytfdbibddhneklab.Arena
