/- The walks of the law RngTells: the reference of the generator, bit by bit over rows of 32 bools, computes what the step on words computes. No condition. -/
import Derived.Test.YtfdbibddhneklaaRng
import Derived.WalkKit
import Derived.Below
import Derived.Deep.WholeRow
import Derived.Lib.Hide
namespace Go.Proofs.Ytfdbibddhneklaa
open Go.RowKit
theorem wpList_store_row {P : Program} {ops : Array Oper} {rest : List Oper} {o : Oper} {a : Act} {w : World} {Q : Exit → Act → World → Prop} (hgd : o.guard = none) (ty : TypeId) (x y : Operand) (ho : o.op = .store ty x y)
    (g : Nat) (cells : Array Value) (hx : a.eval x = .pointer (some ⟨g, 0, none⟩)) (hy : a.eval y = .agg cells)
    (t : TypeId) (old : Array Value) (hg : w.heap[g]? = some (.cells old t (0, 0))) (hi : (P.info? ty).map (·.size) = some cells.size)
    (hold : old.size = cells.size) (h1 : cells.all (·.oneCell') = true)
    (h : wpList P ops Q rest (a.put o.dst undef) (w.setRow g cells)) : wpList P ops Q (o :: rest) a w :=
  wpList_plain hgd fun _ hK => wp_store_row ty x y ho g cells hx hy t old hg hi hold h1 (hK _ _ h)
theorem setRow_past (w : World) (o : Obj) (g : Nat) (c : Array Value) (h : g < w.heap.size) : (w.alloc o).setRow g c = (w.setRow g c).alloc o := by
  simp only [World.setRow, World.alloc]
  congr 1
  apply Array.ext_getElem?
  intro i
  simp only [Array.getElem?_modify, Array.getElem?_push, Array.size_modify]
  by_cases h1 : g = i
  · subst h1
    have : ¬ g = w.heap.size := by omega
    simp [this]
  · by_cases h2 : i = w.heap.size
    · subst h2; simp [h1]
    · simp [h1, h2]
theorem setRow_two (w : World) (c c' : Array Value) (t : TypeId) (o : Obj) : ((w.alloc (.cells c t)).alloc o).setRow w.heap.size c' = (w.alloc (.cells c' t)).alloc o := by
  rw [setRow_past _ _ _ _ (by simp), World.setRow_alloc_new]
theorem heap2_first (w : World) (A B : Obj) : ((w.alloc A).alloc B).heap[w.heap.size]? = some A := heap_alloc2_old w A B
theorem heap_at (w : World) (o : Obj) (n : Nat) (h : n = w.heap.size) : (w.alloc o).heap[n]? = some o := by subst h; exact heap_alloc_last w o
theorem heap_past (w : World) (o : Obj) (n : Nat) (x : Option Obj) (h : n < w.heap.size) (hx : w.heap[n]? = x) : (w.alloc o).heap[n]? = x := by rw [heap_alloc_old w o h]; exact hx
theorem setRow_at (w : World) (c c' : Array Value) (t : TypeId) (n : Nat) (h : n = w.heap.size) : (w.alloc (.cells c t)).setRow n c' = w.alloc (.cells c' t) := by subst h; exact World.setRow_alloc_new w c c' t
def bsv (l : List Bool) : Array Value := (l.map Value.bool).toArray
theorem bsv_one (l : List Bool) : (bsv l).all (·.oneCell') = true := by
  rw [Array.all_eq_true_iff_forall_mem]
  intro v hv
  simp only [bsv, List.mem_toArray, List.mem_map] at hv
  obtain ⟨b, _, rfl⟩ := hv
  rfl
/-- the bits of m below k, as a row of 32 -/
def bitsTo (m : Nat) (k : Nat) : List Bool := (List.range 32).map fun i => decide (i < k) && (m / 2 ^ i % 2 == 1)
theorem bitsTo_len (m k : Nat) : (bitsTo m k).length = 32 := by simp [bitsTo]
theorem bsv_size (l : List Bool) : (bsv l).size = l.length := by simp [bsv]
theorem bsv_get (l : List Bool) (k : Nat) (h : k < l.length) : (bsv l)[k]? = some (.bool l[k]) := by simp [bsv, h]
theorem bsv_set (l : List Bool) (k : Nat) (b : Bool) : (bsv l).setIfInBounds k (.bool b) = bsv (l.set k b) := by simp [bsv]
theorem bits_next (m k : Nat) : (bitsTo m k).set k (m / 2 ^ k % 2 == 1) = bitsTo m (k + 1) := by
  apply List.ext_getElem
  · simp [bitsTo]
  · intro i h1 h2
    rw [List.getElem_set]
    simp only [bitsTo, List.getElem_map, List.getElem_range]
    by_cases e : k = i
    · subst e; simp
    · rw [if_neg e]
      have : (i < k) ↔ (i < k + 1) := by omega
      simp only [this]
theorem bit_eq (m k : Nat) : (((m : Int) / 2 ^ k).tmod 2 == 1) = (m / 2 ^ k % 2 == 1) := by
  have e : ((m : Int) / 2 ^ k) = ((m / 2 ^ k : Nat) : Int) := by simp
  rw [e]
  generalize m / 2 ^ k = q
  rw [Int.tmod_eq_emod_of_nonneg (by omega), Bool.eq_iff_iff, beq_iff_eq, beq_iff_eq]
  omega
theorem half_eq (m k : Nat) (h : m / 2 ^ k ≤ 4294967295) : (((m : Int) / 2 ^ k).tdiv 2 % 4294967296) = ((m / 2 ^ (k + 1) : Nat) : Int) := by
  have e : ((m : Int) / 2 ^ k) = ((m / 2 ^ k : Nat) : Int) := by simp
  rw [e, Nat.pow_succ, ← Nat.div_div_eq_div_mul]
  generalize m / 2 ^ k = q at *
  rw [Int.tdiv_eq_ediv_of_nonneg (by omega)]
  omega
set_option maxHeartbeats 400000 in
theorem bits_any (m : Nat) (hm : m ≤ 4294967295) (w : World) : Calls Try.prog 14 #[.int .u32 m] w fun e w' => e = .returned (.agg (bsv (bitsTo m 32))) ∧ Below w.heap.size w w' := by
  go_enter Try.func14, Try.ntmps14
  go_wp2
  go_loopw [0, 4] (fun n i wr => ∃ k : Nat, k ≤ 32 ∧ i = .int .i64 k ∧ n = .int .u32 ((m / 2 ^ k : Nat) : Int) ∧ wr = (w.alloc (.cells (bsv (bitsTo m 0)) 30)).alloc (.cells (bsv (bitsTo m k)) 30))
    (fun _ i _ => 32 - (intOf i).toNat)
  case atStart => exact ⟨0, by omega, rfl, by simp, rfl⟩
  case round =>
    obtain ⟨k, hk, rfl, rfl, rfl⟩ := hrel
    have hd : m / 2 ^ k ≤ 4294967295 := Nat.le_trans (Nat.div_le_self _ _) hm
    by_cases hlt : k < 32
    · have hg := bsv_get (bitsTo m k) k (by rw [bitsTo_len]; exact hlt)
      go_wp2
      refine ⟨⟨k + 1, by omega, by go_num, ?_, ?_⟩, by simp [intOf]; omega⟩
      · rw [half_eq _ _ hd]
      · rw [bsv_set, bit_eq, bits_next]
    · have hk32 : k = 32 := by omega
      subst hk32
      have hi : ((Try.prog.info? 30).map (·.size)) = some (bsv (bitsTo m 32)).size := by rw [bsv_size, bitsTo_len]; kernel_rfl
      have ho : (bsv (bitsTo m 0)).size = (bsv (bitsTo m 32)).size := by simp only [bsv_size, bitsTo_len]
      have hi2 := Lib.hid hi
      have ho2 := Lib.hid ho
      clear hi ho
      go_wp2_with (first | (refine wpList_load_row rfl 30 (.tmp 3) rfl _ rfl _ _ _ _ (heap_alloc2_new _ _ _) Try.underlying30 rfl hi2.out ?_) | (refine wpList_store_row rfl 30 (.tmp 2) (.tmp 16) rfl _ _ rfl rfl _ _ (heap2_first _ _ _) hi2.out ho2.out (bsv_one _) ?_; rw [setRow_two]))
      exact bodyPost_ret (results_cell_row rfl _ _ _ _ _ _ _ rfl (heap2_first _ _ _) Try.underlying30 rfl hi2.out) rfl ⟨rfl, ((Below.refl _ _).alloc (Nat.le_refl _) _).alloc (by simp) _⟩

def z32 : List Bool := List.replicate 32 false
def gB (l : List Bool) (k : Nat) : Bool := l.getD k false
def chg (l : List Bool) (b : Int) (i : Nat) : Bool := decide (0 ≤ (i : Int) - b) && (decide ((i : Int) - b < 32) && gB l ((i : Int) - b).toNat)
def curL (l : List Bool) (b : Int) (k : Nat) : List Bool := (List.range 32).map fun i => if i < k then (gB l i ^^ chg l b i) else gB l i
theorem curL_len (l : List Bool) (b : Int) (k : Nat) : (curL l b k).length = 32 := by simp [curL]
theorem curL_get (l : List Bool) (b : Int) (k : Nat) (hk : k < 32) : (curL l b k)[k]'(by rw [curL_len]; exact hk) = gB l k := by simp [curL]
theorem curL_zero (l : List Bool) (b : Int) (hl : l.length = 32) : curL l b 0 = l := by
  apply List.ext_getElem
  · simp [curL, hl]
  · intro i h1 h2
    simp only [curL, List.getElem_map, List.getElem_range, Nat.not_lt_zero, if_false]
    simp [gB, h2]
theorem curL_keep (l : List Bool) (b : Int) (k : Nat) (h : chg l b k = false) : curL l b k = curL l b (k + 1) := by
  apply List.ext_getElem
  · simp [curL]
  · intro i h1 h2
    simp only [curL, List.getElem_map, List.getElem_range]
    by_cases e : i = k
    · subst e; simp [h]
    · have : (i < k) ↔ (i < k + 1) := by omega
      simp only [this]
theorem curL_turn (l : List Bool) (b : Int) (k : Nat) (h : chg l b k = true) : (curL l b k).set k (!(gB l k)) = curL l b (k + 1) := by
  apply List.ext_getElem
  · simp [curL]
  · intro i h1 h2
    rw [List.getElem_set]
    simp only [curL, List.getElem_map, List.getElem_range]
    by_cases e : k = i
    · subst e; simp [h]
    · rw [if_neg e]
      have : (i < k) ↔ (i < k + 1) := by omega
      simp only [this]
theorem bsv_getD (l : List Bool) (k : Nat) (h : k < l.length) : (bsv l)[k]? = some (.bool (gB l k)) := by simp [bsv, gB, h]
theorem chg_no (l : List Bool) (b : Int) (k : Nat) (h : ¬ (0 ≤ (k : Int) - b ∧ (k : Int) - b < 32 ∧ gB l ((k : Int) - b).toNat = true)) : chg l b k = false := by
  cases e : chg l b k
  · rfl
  · refine absurd ?_ h
    simpa [chg] using e
theorem chg_yes (l : List Bool) (b : Int) (k : Nat) (h : 0 ≤ (k : Int) - b ∧ (k : Int) - b < 32 ∧ gB l ((k : Int) - b).toNat = true) : chg l b k = true := by
  unfold chg
  simp only [Bool.and_eq_true, decide_eq_true_eq]
  exact h
set_option maxHeartbeats 1000000 in
theorem with_any (l : List Bool) (b : Int) (hl : l.length = 32) (hb : -32 ≤ b ∧ b ≤ 32) (w : World) : Calls Try.prog 13 #[.agg (bsv l), .int .i64 b] w fun e w' => e = .returned (.agg (bsv (curL l b 32))) ∧ Below w.heap.size w w' := by
  have hi : ((Try.prog.info? 30).map (·.size)) = some (bsv l).size := by rw [bsv_size, hl]; kernel_rfl
  have ho : (bsv z32).size = (bsv l).size := by simp only [bsv_size, hl]; rfl
  have hj : ((Try.prog.info? 30).map (·.size)) = some (bsv (curL l b 32)).size := by rw [bsv_size, curL_len]; kernel_rfl
  have hq : (bsv z32).size = (bsv (curL l b 32)).size := by simp only [bsv_size, curL_len]; rfl
  have hi2 := Lib.hid hi
  have ho2 := Lib.hid ho
  have hj2 := Lib.hid hj
  have hq2 := Lib.hid hq
  have hl2 := Lib.hid hl
  clear hi ho hl hj hq
  go_enter Try.func13, Try.ntmps13
  go_wp2_with (first | (refine wpList_load_row rfl 30 (.tmp 2) rfl _ rfl _ _ _ _ (heap_past _ _ _ _ (by simp) (heap_at _ _ _ (by simp))) Try.underlying30 rfl hi2.out ?_) | (refine wpList_store_row rfl 30 (.tmp 5) (.tmp 7) rfl _ _ rfl rfl _ _ (heap_at _ _ _ (by simp)) hi2.out ho2.out (bsv_one _) ?_; rw [setRow_at _ _ _ _ _ (by simp)]))
  go_loopw [6] (fun i wr => ∃ k : Nat, k ≤ 32 ∧ i = .int .i64 k ∧ wr = ((w.alloc (.cells (bsv l) 30)).alloc (.cells (bsv z32) 30)).alloc (.cells (bsv (curL l b k)) 30))
    (fun i _ => 32 - (intOf i).toNat)
  case atStart => exact ⟨0, by omega, rfl, by rw [curL_zero l b hl2.out]; rfl⟩
  case round =>
    obtain ⟨k, hk, rfl, rfl⟩ := hrel
    by_cases hlt : k < 32
    · have hg : (bsv (curL l b k))[k]? = some (.bool (gB l k)) := by
        rw [bsv_get _ k (by rw [curL_len]; exact hlt), curL_get _ _ _ hlt]
      have g1 : 0 ≤ (k : Int) := by omega
      have g2 : (k : Int) < 32 := by omega
      by_cases h1 : 0 ≤ (k : Int) - b
      · by_cases h2 : (k : Int) - b < 32
        · have hx : (bsv l)[((k : Int) - b).toNat]? = some (.bool (gB l ((k : Int) - b).toNat)) := bsv_getD _ _ (by rw [hl2.out]; omega)
          cases hbit : gB l ((k : Int) - b).toNat
          · have hch := Lib.hid (chg_no l b k (by rw [hbit]; simp))
            rw [hbit] at hx
            clear hbit
            go_wp2
            exact ⟨⟨k + 1, by omega, by go_num, by rw [curL_keep _ _ _ hch.out]⟩, by simp [intOf]; omega⟩
          · have hch := Lib.hid (chg_yes l b k ⟨h1, h2, hbit⟩)
            rw [hbit] at hx
            clear hbit
            go_wp2
            exact ⟨⟨k + 1, by omega, by go_num, by rw [bsv_set, curL_turn _ _ _ hch.out]⟩, by simp [intOf]; omega⟩
        · have hch := Lib.hid (chg_no l b k (fun h => h2 h.2.1))
          go_wp2
          exact ⟨⟨k + 1, by omega, by go_num, by rw [curL_keep _ _ _ hch.out]⟩, by simp [intOf]; omega⟩
      · have hch := Lib.hid (chg_no l b k (fun h => h1 h.1))
        go_wp2
        exact ⟨⟨k + 1, by omega, by go_num, by rw [curL_keep _ _ _ hch.out]⟩, by simp [intOf]; omega⟩
    · have hk32 : k = 32 := by omega
      subst hk32
      go_wp2_with (first | (refine wpList_load_row rfl 30 (.tmp 5) rfl _ rfl _ _ _ _ (heap_at _ _ _ (by simp)) Try.underlying30 rfl hj2.out ?_) | (refine wpList_store_row rfl 30 (.tmp 4) (.tmp 35) rfl _ _ rfl rfl _ _ (heap_past _ _ _ _ (by simp) (heap_at _ _ _ (by simp))) hj2.out hq2.out (bsv_one _) ?_; rw [setRow_past _ _ _ _ (by simp), setRow_at _ _ _ _ _ (by simp)]))
      exact bodyPost_ret (results_cell_row rfl _ _ _ _ _ _ _ rfl (heap_past _ _ _ _ (by simp) (heap_at _ _ _ (by simp))) Try.underlying30 rfl hj2.out) rfl ⟨rfl, (((Below.refl _ _).alloc (Nat.le_refl _) _).alloc (by simp) _).alloc (by simp; omega) _⟩

open RngP
def bvl (x : BitVec 32) : List Bool := (List.range 32).map x.getLsbD
theorem bvl_len (x : BitVec 32) : (bvl x).length = 32 := by simp [bvl]
theorem gB_bvl (x : BitVec 32) (i : Nat) : gB (bvl x) i = x.getLsbD i := by
  unfold gB bvl
  by_cases h : i < 32
  · simp [List.getD, h]
  · simp [List.getD, h]
    rw [BitVec.getLsbD_of_ge _ _ (by omega)]
theorem bits_bvl (x : BitVec 32) : bitsTo x.toNat 32 = bvl x := by
  unfold bitsTo bvl
  apply List.map_congr_left
  intro i hi
  have := List.mem_range.1 hi
  simp [BitVec.getLsbD, Nat.testBit_eq_decide_div_mod_eq, this]
  rw [Bool.eq_iff_iff]; simp
theorem curL_up (x : BitVec 32) (k : Nat) (hk : k ≤ 32) : curL (bvl x) (k : Int) 32 = bvl (up k x) := by
  unfold curL
  apply List.map_congr_left
  intro i hi
  have hi := List.mem_range.1 hi
  simp only [hi, if_true, gB_bvl, chg, up, BitVec.getLsbD_xor, BitVec.getLsbD_shiftLeft]
  congr 1
  by_cases h : i < k
  · have : ¬ 0 ≤ (i : Int) - k := by omega
    rw [decide_eq_false this]; simp [h]
  · have e : ((i : Int) - k).toNat = i - k := by omega
    have h1 : 0 ≤ (i : Int) - k := by omega
    have h2 : (i : Int) - k < 32 := by omega
    rw [e, decide_eq_true h1, decide_eq_true h2]
    simp [h]
theorem curL_dn (x : BitVec 32) (k : Nat) (hk : k ≤ 32) : curL (bvl x) (-(k : Int)) 32 = bvl (dn k x) := by
  unfold curL
  apply List.map_congr_left
  intro i hi
  have hi := List.mem_range.1 hi
  simp only [hi, if_true, gB_bvl, chg, dn, BitVec.getLsbD_xor, BitVec.getLsbD_ushiftRight]
  congr 1
  have e : ((i : Int) - -(k : Int)).toNat = k + i := by omega
  have h1 : 0 ≤ (i : Int) - -(k : Int) := by omega
  rw [e, decide_eq_true h1]
  by_cases h2 : (i : Int) - -(k : Int) < 32
  · rw [decide_eq_true h2]; simp
  · rw [decide_eq_false h2, BitVec.getLsbD_of_ge _ _ (by omega)]; simp
theorem fold_bit (x : BitVec 32) (j : Nat) : x.toNat / 2 ^ (j + 1) * 2 + (if x.getLsbD j then 1 else 0) = x.toNat / 2 ^ j := by
  rw [Nat.pow_succ, ← Nat.div_div_eq_div_mul]
  have : x.getLsbD j = decide (x.toNat / 2 ^ j % 2 = 1) := by simp [BitVec.getLsbD, Nat.testBit_eq_decide_div_mod_eq]
  rw [this]
  generalize x.toNat / 2 ^ j = q
  by_cases h : q % 2 = 1
  · simp [h]; omega
  · simp [h]; omega
theorem rseed_any (n : Int) (w : World) : Calls Try.prog 6 #[.int .u32 n] w fun e w' => e = .returned (.int .u32 (sdI n)) ∧ w = w' := by
  by_cases h : n = 0
  · subst h
    go_enter Try.func6, Try.ntmps6
    go_wp2
    go_ret
    exact ⟨rfl, rfl⟩
  · have e : sdI n = n := if_neg h
    have E : Hid (sdI n = n) := e
    clear e
    go_enter Try.func6, Try.ntmps6
    go_wp2
    go_ret
    exact ⟨by simp [E.out], rfl⟩
set_option maxHeartbeats 1000000 in
theorem rnext_any (n : Int) (hn : 0 ≤ n ∧ n ≤ 4294967295) (w : World) : Calls Try.prog 8 #[.int .u32 n] w fun e w' => e = .returned (.int .u32 (nextI n)) ∧ Below w.heap.size w w' := by
  obtain ⟨x, hx⟩ := of_range _ (sdI_range n hn)
  have hx2 := Lib.hid hx
  have hnx := Lib.hid (nxI_bv x)
  have hN : nextI n = ((nx x).toNat : Int) := by unfold nextI; rw [hx, nxI_bv]
  have hN2 := Lib.hid hN
  have H := Below.refl w.heap.size w
  clear hx hN
  go_enter Try.func8, Try.ntmps8
  go_wp2_with fail
  refine (rseed_any _ _).mono ?_; rintro e w' ⟨rfl, rfl⟩
  rw [hx2.out]
  go_wp2_with fail
  refine (bits_any _ (by have := x.isLt; omega) _).mono ?_; rintro e w' ⟨rfl, hb⟩
  replace H := bnext H (Nat.le_refl _) hb; clear hb
  rw [bits_bvl]
  go_wp2_with fail
  refine (with_any _ _ (bvl_len _) (by omega) _).mono ?_; rintro e w' ⟨rfl, hb⟩
  replace H := bnext H (Nat.le_refl _) hb; clear hb
  rw [show curL (bvl x) 13 32 = bvl (up 13 x) from curL_up x 13 (by omega)]
  go_wp2_with fail
  refine (with_any _ _ (bvl_len _) (by omega) _).mono ?_; rintro e w' ⟨rfl, hb⟩
  replace H := bnext H (Nat.le_refl _) hb; clear hb
  rw [show curL (bvl (up 13 x)) (-17) 32 = bvl (dn 17 (up 13 x)) from curL_dn _ 17 (by omega)]
  go_wp2_with fail
  refine (with_any _ _ (bvl_len _) (by omega) _).mono ?_; rintro e w' ⟨rfl, hb⟩
  replace H := bnext H (Nat.le_refl _) hb; clear hb
  rw [show curL (bvl (dn 17 (up 13 x))) 5 32 = bvl (nx x) from curL_up _ 5 (by omega)]
  have hi : ((Try.prog.info? 30).map (·.size)) = some (bsv (bvl (nx x))).size := by rw [bsv_size, bvl_len]; kernel_rfl
  have hi2 := Lib.hid hi
  have hq : (bsv z32).size = (bsv (bvl (nx x))).size := by simp only [bsv_size, bvl_len]; rfl
  have hq2 := Lib.hid hq
  clear hi hq
  rename_i w5
  go_wp2_with (first | (refine wpList_store_row rfl 30 (.tmp 3) (.tmp 11) rfl _ _ rfl rfl _ _ (heap_at _ _ _ (by simp)) hi2.out hq2.out (bsv_one _) ?_; rw [setRow_at _ _ _ _ _ (by simp)]))
  go_loop [4, 5] (fun o i => ∃ j : Nat, j ≤ 32 ∧ i = .int .i64 ((j : Int) - 1) ∧ o = .int .u32 (((nx x).toNat / 2 ^ j : Nat) : Int)) (fun _ i => (intOf i + 1).toNat)
  case atStart => exact ⟨32, by omega, rfl, by have := (nx x).isLt; rw [Nat.div_eq_of_lt this]; rfl⟩
  case round =>
    obtain ⟨j, hj, rfl, rfl⟩ := hrel
    rcases j with _ | j
    · rw [show ((0 : Nat) : Int) - 1 = -1 from rfl]
      go_wp2
      go_ret
      exact ⟨by rw [hN2.out]; rfl, (H.alloc (by simpa using H.size) _)⟩
    · rw [show (((j + 1 : Nat) : Int) - 1) = (j : Int) by omega]
      have hq1 : (nx x).toNat / 2 ^ (j + 1) ≤ 2147483647 := by
        have h1 := (nx x).isLt
        have h2 : 2 ^ 1 ≤ 2 ^ (j + 1) := Nat.pow_le_pow_right (by omega) (by omega)
        have h3 : (nx x).toNat / 2 ^ (j + 1) ≤ (nx x).toNat / 2 ^ 1 := Nat.div_le_div_left h2 (by omega)
        omega
      have hf := fold_bit (nx x) j
      have hg : (bsv (bvl (nx x)))[j]? = some (.bool ((nx x).getLsbD j)) := by rw [bsv_getD _ _ (by rw [bvl_len]; omega), gB_bvl]
      have g1 : (0 : Int) ≤ (j : Int) := by omega
      have g2 : (j : Int) < 32 := by omega
      generalize hQ : (nx x).toNat / 2 ^ (j + 1) = q at *
      generalize hR : (nx x).toNat / 2 ^ j = r at *
      have hR2 := Lib.hid hR
      cases hbit : (nx x).getLsbD j
      · rw [hbit] at hg hf
        have hf2 := Lib.hid hf
        clear hbit hQ hR hf
        go_wp2
        exact ⟨⟨j, by omega, by go_num, by rw [hR2.out, ← hf2.out]; simp⟩, by simp [intOf]⟩
      · rw [hbit] at hg hf
        have hf2 := Lib.hid hf
        clear hbit hQ hR hf
        go_wp2
        exact ⟨⟨j, by omega, by go_num, by rw [hR2.out, ← hf2.out]; simp⟩, by simp [intOf]⟩

def belowI (s n : Int) : Int := if n < 1 then 0 else (s / 256) % n
theorem below_any (s n : Int) (hs : 0 ≤ s ∧ s ≤ 4294967295) (hn : -9223372036854775808 ≤ n ∧ n ≤ 9223372036854775807) (w : World) : Calls Try.prog 9 #[.int .u32 s, .int .i64 n] w fun e w' => e = .returned (.int .i64 (belowI s n)) ∧ w = w' := by
  by_cases h : n < 1
  · have e := Lib.hid (show belowI s n = 0 from if_pos h)
    go_enter Try.func9, Try.ntmps9
    go_wp2
    go_ret
    exact ⟨by rw [e.out]; rfl, rfl⟩
  · have e := Lib.hid (show belowI s n = (s / 256) % n from if_neg h)
    have h0 : (n == 0) = false := by rw [beq_eq_false_iff_ne]; omega
    have h1 : ¬ n = 0 := by omega
    have h2 : 0 ≤ s / 256 := by omega
    go_enter Try.func9, Try.ntmps9
    go_wp2
    go_ret
    exact ⟨by rw [e.out]; rfl, rfl⟩
theorem rbelow_any (s n : Int) (hs : 0 ≤ s ∧ s ≤ 4294967295) (hn : -9223372036854775808 ≤ n ∧ n ≤ 9223372036854775807) (w : World) : Calls Try.prog 10 #[.int .u32 s, .int .i64 n] w fun e w' => e = .returned (.int .i64 (belowI s n)) ∧ w = w' := by
  by_cases h : n < 1
  · have e := Lib.hid (show belowI s n = 0 from if_pos h)
    go_enter Try.func10, Try.ntmps10
    go_wp2
    go_ret
    exact ⟨by rw [e.out]; rfl, rfl⟩
  · have e := Lib.hid (show belowI s n = (s / 256) % n from if_neg h)
    have h1 : ¬ n = 0 := by omega
    have h2 : 0 ≤ s / 256 := by omega
    go_enter Try.func10, Try.ntmps10
    go_wp2
    go_ret
    exact ⟨by rw [e.out]; rfl, rfl⟩
set_option maxHeartbeats 400000 in
theorem tells_true (s n : Int) (hs : 0 ≤ s ∧ s ≤ 4294967295) (hn : -9223372036854775808 ≤ n ∧ n ≤ 9223372036854775807) (w : World) : Calls Try.prog 3 #[.int .u32 s, .int .i64 n] w fun e w' => e = .returned (.bool true) ∧ Below w.heap.size w w' := by
  have H := Below.refl w.heap.size w
  go_enter Try.func3, Try.ntmps3
  go_wp2_with (first | (go_at_call 5; refine (seed_any _ _).mono ?_; rintro e w' ⟨rfl, rfl⟩) | (go_at_call 6; refine (rseed_any _ _).mono ?_; rintro e w' ⟨rfl, rfl⟩) | (go_at_call 7; refine (next_any _ _).mono ?_; rintro e w' ⟨rfl, hb⟩; replace H := bnext H (Nat.le_refl _) hb; clear hb) | (go_at_call 8; refine (rnext_any _ hs _).mono ?_; rintro e w' ⟨rfl, hb⟩; replace H := bnext H (Nat.le_refl _) hb; clear hb) | (go_at_call 9; refine (below_any _ _ hs hn _).mono ?_; rintro e w' ⟨rfl, rfl⟩) | (go_at_call 10; refine (rbelow_any _ _ hs hn _).mono ?_; rintro e w' ⟨rfl, rfl⟩) | (go_at_call 11; refine (wakes_true _).mono ?_; rintro e w' ⟨rfl, hb⟩; replace H := bnext H (Nat.le_refl _) hb; clear hb))
  go_ret
  exact ⟨rfl, H⟩
end Go.Proofs.Ytfdbibddhneklaa
