-- by a program of ours (the kit's print, turned, and hand texts beside it), out of the translation; not trusted: Lean checks it
import Derived.Test.YtfdbibddhneklabPGridStepsx0
import Derived.Test.YtfdbibddhneklabPGridStepsx2
namespace Go.Proofs.Ytfdbibddhneklab.PGridSteps
open Go.RowKit Go.Proofs.YtfdbibddhneklabW.PrintWords Go.Proofs.YtfdbibddhneklabW.PrintLast Go.Proofs.YtfdbibddhneklabW.PrintMore
attribute [local go_sem] max2_int min2_int max_two min_two max_three min_three max_four min_four   -- for this text's walks alone
set_option linter.unusedVariables false
set_option linter.unusedSimpArgs false

/-! ### grid_Map_Around: function 36 -/
section
open Go.Shelf
attribute [local go_sem] Oper.semAt_some
/-- is a tile not farther? -/
def grid_nearB (a0 t f : Int) (m : Nat) : Bool := decide (mx (t % a0 - (m : Int) % a0) ((m : Int) % a0 - t % a0) + mx (t / a0 - (m : Int) / a0) ((m : Int) / a0 - t / a0) ≤ f)
/-- the tiles that are not farther, of the first n -/
def grid_flt (a0 t f : Int) (n : Nat) : List Int := ((List.range n).filter (grid_nearB a0 t f)).map fun m : Nat => (m : Int)
theorem grid_flt_len (a0 t f : Int) (n : Nat) : (grid_flt a0 t f n).length ≤ n := by
  unfold grid_flt
  rw [List.length_map]
  exact Nat.le_trans (List.length_filter_le _ _) (by simp)
theorem grid_flt_yes (a0 t f : Int) (n : Nat) (h : grid_nearB a0 t f n = true) : grid_flt a0 t f (n + 1) = grid_flt a0 t f n ++ [(n : Int)] := by
  unfold grid_flt; simp [List.range_succ, h]
theorem grid_flt_no (a0 t f : Int) (n : Nat) (h : grid_nearB a0 t f n = false) : grid_flt a0 t f (n + 1) = grid_flt a0 t f n := by
  unfold grid_flt; simp [List.range_succ, h]
theorem grid_flt_skip (a0 t f : Int) (n m : Nat) (h : ∀ i, n ≤ i → i < n + m → grid_nearB a0 t f i = false) : grid_flt a0 t f (n + m) = grid_flt a0 t f n := by
  induction m with
  | zero => rfl
  | succ m ih =>
    rw [← Nat.add_assoc, grid_flt_no _ _ _ _ (h _ (by omega) (by omega)), ih (fun i h1 h2 => h i h1 (by omega))]
/-- a tile by its row and column -/
theorem grid_near_at (a0 t f : Int) (v u : Nat) (h0 : 0 < a0) (hu : (u : Int) < a0) (m : Nat) (hm : (m : Int) = v * a0 + u) : grid_nearB a0 t f m = decide (mx (t % a0 - u) (u - t % a0) + mx (t / a0 - v) (v - t / a0) ≤ f) := by
  unfold grid_nearB
  have e1 : (m : Int) % a0 = u := by rw [hm, Int.add_comm, Int.add_mul_emod_self_right]; exact Int.emod_eq_of_lt (by omega) hu
  have e2 : (m : Int) / a0 = v := by rw [hm, Int.add_comm, Int.add_mul_ediv_right _ _ (by omega), Int.ediv_eq_zero_of_lt (by omega) hu]; omega
  rw [e1, e2]
theorem ownsRow_base {W : World} {b b' : Nat} {e : TypeId} {size n : Nat} {v : Value} {xs : List Value} (hb : b' ≤ b) (h : W.ownsRow b e size v n xs) : W.ownsRow b' e size v n xs := by
  obtain ⟨h1, h2⟩ := h
  refine ⟨h1, ?_⟩
  rcases h2 with h2 | ⟨g, cap, cur, e1, hg, r⟩
  · exact .inl h2
  · exact .inr ⟨g, cap, cur, e1, Nat.le_trans hb hg, r⟩
theorem ownsRow_ge {W : World} {b : Nat} {e : TypeId} {size n : Nat} {v : Value} {xs : List Value} (h : W.ownsRow b e size v n xs) (k : Nat) (hk : v.ownBlock = some k) : b ≤ k := own_base h k hk
theorem grid_R_of_own {W : World} {b n : Nat} {e : TypeId} {v : Value} {xs : List Int} (h : W.ownsRow b e 1 v n (xs.map (Value.int .i64))) : Kd.R (Kd.int .i64) e W b (fun _ => True) v xs := by
  have hn : xs.length = n := by have := h.1; simpa using this
  subst hn
  exact Kd.R_of_own h (fun _ _ => trivial)
/-- some blocks lie as they lay -/
def grid_Keep (p q : Nat) (W W' : World) : Prop := ∀ k, p ≤ k → k < q → W'.heap[k]? = W.heap[k]?
theorem grid_Keep.trans {p q : Nat} {A B C : World} (h : grid_Keep p q A B) (k : grid_Keep p q B C) : grid_Keep p q A C := fun i a b => (k i a b).trans (h i a b)
theorem grid_near_row (a0 t f : Int) (m : Nat) (h : (m : Int) / a0 < t / a0 - f ∨ t / a0 + f < (m : Int) / a0) : grid_nearB a0 t f m = false := by
  unfold grid_nearB mx
  rw [decide_eq_false_iff_not]
  generalize (m : Int) / a0 = q at *
  generalize t / a0 = y at *
  generalize (m : Int) % a0 = r
  generalize t % a0 = x
  split <;> split <;> omega
/-- rows that are too far up, or down, hold none -/
theorem grid_flt_rows (a0 t f : Int) (v w : Nat) (h0 : 0 < a0) (h : ∀ q : Int, v ≤ q → q < v + w → q < t / a0 - f ∨ t / a0 + f < q) : grid_flt a0 t f ((v + w) * a0.toNat) = grid_flt a0 t f (v * a0.toNat) := by
  rw [Nat.add_mul]
  refine grid_flt_skip _ _ _ _ _ (fun i h1 h2 => grid_near_row _ _ _ _ (h _ ?_ ?_))
  · refine Int.le_ediv_of_mul_le h0 ?_
    have : ((v * a0.toNat : Nat) : Int) ≤ (i : Int) := by omega
    rw [Int.natCast_mul, Int.toNat_of_nonneg (by omega)] at this
    exact this
  · refine Int.ediv_lt_of_lt_mul h0 ?_
    have : (i : Int) < ((v * a0.toNat + w * a0.toNat : Nat) : Int) := by omega
    rw [Int.natCast_add, Int.natCast_mul, Int.natCast_mul, Int.toNat_of_nonneg (by omega), ← Int.add_mul] at this
    exact this
/-- columns that are too far hold none -/
theorem grid_flt_cols (a0 t f : Int) (v u k : Nat) (h0 : 0 < a0) (hk : ((u + k : Nat) : Int) ≤ a0) (h : ∀ q : Nat, u ≤ q → q < u + k → ¬ (mx (t % a0 - q) (q - t % a0) + mx (t / a0 - v) (v - t / a0) ≤ f)) : grid_flt a0 t f (v * a0.toNat + (u + k)) = grid_flt a0 t f (v * a0.toNat + u) := by
  rw [← Nat.add_assoc]
  refine grid_flt_skip _ _ _ _ _ (fun i h1 h2 => ?_)
  obtain ⟨q, rfl⟩ : ∃ q, i = v * a0.toNat + q := ⟨i - v * a0.toNat, by omega⟩
  rw [grid_near_at a0 t f v q h0 (by omega) _ (by rw [Int.natCast_add, Int.natCast_mul, Int.toNat_of_nonneg (by omega)])]
  rw [decide_eq_false_iff_not]
  exact h q (by omega) (by omega)
set_option maxRecDepth 100000 in
set_option maxHeartbeats 2000000 in
theorem grid_around1_in (n : Nat) (l b1 b2 b3 p q : Nat) (a0 a1 : Int) (s : ByteArray) (t f x y : Int) (h1 : p ≤ b1 ∧ b1 < q) (h3 : p ≤ b3 ∧ b3 < q)
    (g1 : 1 ≤ a0 ∧ a0 ≤ 64) (g2 : 1 ≤ a1 ∧ a1 ≤ 64) (gf : 0 ≤ f ∧ f ≤ 128) (gx : 0 ≤ x ∧ x < a0) (gy : 0 ≤ y ∧ y < a1) (hx : t % a0 = x) (hy : t / a0 = y) (hXY : grid_Map_XY.f a0 a1 s t = some (x, y)) (J Jx : List Int → World → Prop)
    (hY : ∀ pre z W, J pre W → pre.length < 4096 → YieldAt Fence.wide (n - 1) Try.prog l #[.int .i64 z] W fun e W' =>
      (e = .returned (.bool true) ∧ J (pre ++ [z]) W' ∧ grid_Keep p q W W') ∨ (e = .returned (.bool false) ∧ Jx (pre ++ [z]) W'))
    (W : World) (hc1 : W.heap[b1]? = some (.cells #[.int .i64 a0, .int .i64 a1, .string s] 77 (0, 0))) (hc2 : W.heap[b2]? = some (.cells #[.int .i64 t] 3 (0, 0))) (hc3 : W.heap[b3]? = some (.cells #[.int .i64 f] 3 (0, 0))) (h0 : J [] W)
    (hJB : ∀ pre A B, Below A.heap.size A B → J pre A → J pre B) (hq : q ≤ W.heap.size) :
    CallsIn Fence.wide n Try.prog 51 #[.func (.yield l) #[] #[], .pointer (some ⟨b1, 0, none⟩), .pointer (some ⟨b2, 0, none⟩), .pointer (some ⟨b3, 0, none⟩)] W fun e W' => (∃ v, e = .returned v) ∧
      ((∃ ys, ys = grid_flt a0 t f (a0 * a1).toNat ∧ J ys W') ∨ (∃ pre, True ∧ Jx pre W')) := by
  have HXY := Lib.hid hXY
  have k0 : W.cell? ⟨b1, 0, none⟩ = some (.int .i64 a0) := (blk_cell hc1 0).trans rfl
  have k1 : W.cell? ⟨b1, 1, none⟩ = some (.int .i64 a1) := (blk_cell hc1 1).trans rfl
  have k2 : W.cell? ⟨b1, 2, none⟩ = some (.string s) := (blk_cell hc1 2).trans rfl
  have k3 : W.cell? ⟨b2, 0, none⟩ = some (.int .i64 t) := (blk_cell hc2 0).trans rfl
  have k4 : W.cell? ⟨b3, 0, none⟩ = some (.int .i64 f) := (blk_cell hc3 0).trans rfl
  have HX := Lib.hid hx
  have HYY := Lib.hid hy
  have lt1 := blk_lt hc1
  have lt2 := blk_lt hc2
  have lt3 := blk_lt hc3
  have HC1 := Lib.hid hc1; have HC3 := Lib.hid hc3
  have C1 := Lib.hid hc1; have C2 := Lib.hid hc2; have C3 := Lib.hid hc3
  clear hXY hc1 hc2 hc3 hx hy
  refine callsIn_of_wp Try.func51 rfl trivial ?_ rfl
  simp only [Try.ntmps51, List.size_toArray, List.length_cons, List.length_nil, Nat.reduceAdd, Nat.reduceSub, Array.replicate_succ, Array.replicate_zero, List.push_toArray, List.append_toArray, List.nil_append, List.cons_append]
  gi_wp2
  refine ⟨trivial, fun h => (by cases h), ?_⟩
  refine (callsIn_wide.2 (grid_Map_XY.calls a0 a1 s t x y _ HXY.out)).mono ?_; rintro e w2 ⟨rfl, hb⟩
  have B2 := Lib.hid hb
  have C1' := Lib.hid (blk_below C1.out hb); have C2' := Lib.hid (blk_below C2.out hb); have C3' := Lib.hid (blk_below C3.out hb)
  clear k0 k1 k2 k3 k4 lt1 lt2 lt3 C1 C2 C3
  have k0 : w2.cell? ⟨b1, 0, none⟩ = some (.int .i64 a0) := (blk_cell C1'.out 0).trans rfl
  have k1 : w2.cell? ⟨b1, 1, none⟩ = some (.int .i64 a1) := (blk_cell C1'.out 1).trans rfl
  have k4 : w2.cell? ⟨b3, 0, none⟩ = some (.int .i64 f) := (blk_cell C3'.out 0).trans rfl
  have lt1 := blk_lt C1'.out
  have lt3 := blk_lt C3'.out
  clear hb
  obtain ⟨v0, hv0⟩ : ∃ v0 : Nat, (if f < y then y - f else 0) = (v0 : Int) := by
    split
    · exact ⟨(y - f).toNat, by omega⟩
    · exact ⟨0, rfl⟩
  have gv0 : v0 ≤ y ∧ (v0 = 0 ∨ (v0 : Int) = y - f) ∧ y - f ≤ v0 := by split at hv0 <;> omega
  obtain ⟨v1, hv1⟩ : ∃ v1 : Int, (if y + f < a1 - 1 then y + f else a1 - 1) = v1 := ⟨_, rfl⟩
  have gv1 : y ≤ v1 ∧ v1 < a1 ∧ (v1 = a1 - 1 ∨ v1 = y + f) := by split at hv1 <;> omega
  gi_wp2
  have hA0 : ((a0.toNat : Nat) : Int) = a0 := Int.toNat_of_nonneg (by omega)
  have HA0 := Lib.hid hA0
  have hprod : a0 * a1 ≤ 64 * 64 := Int.mul_le_mul (by omega) (by omega) (by omega) (by omega)
  have HPR := Lib.hid hprod
  clear hA0 hprod
  gi_loopw [7] (fun v wr => ∃ V : Nat, v = .int .i64 V ∧ v0 ≤ V ∧ (V : Int) ≤ v1 + 1 ∧ J (grid_flt a0 t f (V * a0.toNat)) wr ∧ grid_Keep p q W wr) (fun v _ => a1.toNat - (intOf v).toNat)
  case atStart =>
    refine ⟨v0, rfl, Nat.le_refl _, by omega, ?_, fun k _ hk => B2.out.block k (by omega)⟩
    have e := grid_flt_rows a0 t f 0 v0 (by omega) (fun q q1 q2 => by rw [HYY.out]; omega)
    rw [Nat.zero_add] at e
    rw [e, show grid_flt a0 t f (0 * a0.toNat) = [] by simp [grid_flt]]
    exact hJB [] W w2 B2.out h0
  case round =>
    obtain ⟨V, rfl, hV0, hV1, hJ, hB⟩ := hrel
    have C1 := Lib.hid ((hB b1 h1.1 h1.2).trans HC1.out)
    have C3 := Lib.hid ((hB b3 h3.1 h3.2).trans HC3.out)
    have k0 : wr.cell? ⟨b1, 0, none⟩ = some (.int .i64 a0) := (blk_cell C1.out 0).trans rfl
    have k1 : wr.cell? ⟨b1, 1, none⟩ = some (.int .i64 a1) := (blk_cell C1.out 1).trans rfl
    have k4 : wr.cell? ⟨b3, 0, none⟩ = some (.int .i64 f) := (blk_cell C3.out 0).trans rfl
    have lt1 := blk_lt C1.out
    have lt3 := blk_lt C3.out
    by_cases hV : (V : Int) ≤ v1
    · obtain ⟨d, hd⟩ : ∃ d : Int, (if y - V < V - y then (V : Int) - y else y - V) = d := ⟨_, rfl⟩
      have gd : 0 ≤ d ∧ d ≤ f ∧ d ≤ 64 ∧ mx (y - V) (V - y) = d := by
        refine ⟨?_, ?_, ?_, hd⟩ <;> (split at hd <;> omega)
      obtain ⟨u0, hu0⟩ : ∃ u0 : Nat, (if f - d < x then x - (f - d) else 0) = (u0 : Int) := by
        split
        · exact ⟨(x - (f - d)).toNat, by omega⟩
        · exact ⟨0, rfl⟩
      have gu0 : (u0 : Int) ≤ x ∧ (u0 = 0 ∨ (u0 : Int) = x - (f - d)) ∧ x - (f - d) ≤ u0 := by split at hu0 <;> omega
      obtain ⟨u1, hu1⟩ : ∃ u1 : Int, (if x + (f - d) < a0 - 1 then x + (f - d) else a0 - 1) = u1 := ⟨_, rfl⟩
      have gu1 : x ≤ u1 ∧ u1 < a0 ∧ (u1 = a0 - 1 ∨ u1 = x + (f - d)) := by split at hu1 <;> omega
      gi_wp2
      obtain ⟨wo, rfl⟩ : ∃ wo : World, wo = wr := ⟨_, rfl⟩
      gi_loopw [9] (fun u wr => ∃ U : Nat, u = .int .i64 U ∧ u0 ≤ U ∧ (U : Int) ≤ u1 + 1 ∧ J (grid_flt a0 t f (V * a0.toNat + U)) wr ∧ grid_Keep p q W wr) (fun u _ => a0.toNat - (intOf u).toNat)
      case atStart =>
        refine ⟨u0, rfl, Nat.le_refl _, by omega, ?_, hB⟩
        have e := grid_flt_cols a0 t f V 0 u0 (by omega) (by omega) (fun q q1 q2 => by rw [HX.out, HYY.out, gd.2.2.2]; unfold mx; split <;> omega)
        rw [Nat.zero_add, Nat.add_zero] at e
        rw [e]
        exact hJ
      case round =>
        clear C1 C3 k0 k1 k4 lt1 lt3 hJ hB
        obtain ⟨U, rfl, hU0, hU1, hJ, hB⟩ := hrel
        have C1 := Lib.hid ((hB b1 h1.1 h1.2).trans HC1.out)
        have C3 := Lib.hid ((hB b3 h3.1 h3.2).trans HC3.out)
        have k0 : wr.cell? ⟨b1, 0, none⟩ = some (.int .i64 a0) := (blk_cell C1.out 0).trans rfl
        have k1 : wr.cell? ⟨b1, 1, none⟩ = some (.int .i64 a1) := (blk_cell C1.out 1).trans rfl
        have k4 : wr.cell? ⟨b3, 0, none⟩ = some (.int .i64 f) := (blk_cell C3.out 0).trans rfl
        have lt1 := blk_lt C1.out
        have lt3 := blk_lt C3.out
        by_cases hU : (U : Int) ≤ u1
        · have hm1 : (V : Int) * a0 + a0 ≤ a1 * a0 := by
            rw [show (V : Int) * a0 + a0 = (V + 1) * a0 by rw [Int.add_mul, Int.one_mul]]
            exact Int.mul_le_mul_of_nonneg_right (by omega) (by omega)
          have hm2 : 0 ≤ (V : Int) * a0 := Int.mul_nonneg (by omega) (by omega)
          have hm3 : a1 * a0 ≤ 64 * 64 := by rw [Int.mul_comm]; exact HPR.out
          obtain ⟨Z, hZ⟩ : ∃ Z : Int, Z = ((V * a0.toNat + U : Nat) : Int) := ⟨_, rfl⟩
          have hz : wrap64 (wrap64 ((V : Int) * a0) + U) = Z := by
            rw [hZ, Int.natCast_add, Int.natCast_mul, HA0.out]
            unfold wrap64
            omega
          have hlen : (grid_flt a0 t f (V * a0.toNat + U)).length < 4096 := by
            have e1 := grid_flt_len a0 t f (V * a0.toNat + U)
            have e2 : ((V * a0.toNat + U : Nat) : Int) = V * a0 + U := by rw [Int.natCast_add, Int.natCast_mul, HA0.out]
            omega
          have hyes : grid_nearB a0 t f (V * a0.toNat + U) = true := by
            rw [grid_near_at a0 t f V U (by omega) (by omega) _ (by rw [Int.natCast_add, Int.natCast_mul, HA0.out]), HX.out, HYY.out, gd.2.2.2]
            unfold mx
            rw [decide_eq_true_eq]
            split <;> omega
          have hstep := Lib.hid (grid_flt_yes a0 t f _ hyes)
          obtain ⟨fn, tmps, assign, body, hy, hR⟩ := hY _ Z wr hJ hlen
          rw [hZ] at hR
          have HZ := Lib.hid hZ
          clear hm1 hm2 hm3 hyes hZ
          gi_wp2
          refine ⟨fun h => (by cases h), ?_⟩
          refine hR.mono ?_
          rintro e W3 (⟨rfl, hJ3, hk3⟩ | ⟨rfl, hJx3⟩)
          · rw [← hstep.out] at hJ3
            gi_wp2
            go_roundw
            case rel => exact ⟨U + 1, by go_num, by omega, by omega, hJ3, hB.trans hk3⟩
            case measure => simp [intOf]; omega
          · gi_wp2
            refine bodyPost_ret (results_none rfl _ _ _) rfl ?_
            exact ⟨⟨_, rfl⟩, .inr ⟨_, trivial, hJx3⟩⟩
        · have e := grid_flt_cols a0 t f V U (a0.toNat - U) (by omega) (by omega) (fun q q1 q2 => by rw [HX.out, HYY.out, gd.2.2.2]; unfold mx; split <;> omega)
          have e2 : V * a0.toNat + (U + (a0.toNat - U)) = (V + 1) * a0.toNat := by
            rw [Nat.add_mul, Nat.one_mul]
            have : U ≤ a0.toNat := by omega
            omega
          rw [e2] at e
          rw [← e] at hJ
          have HE := Lib.hid e
          clear e e2
          gi_wp2
          go_roundw
          case rel => exact ⟨V + 1, by go_num, by omega, by omega, hJ, hB⟩
          case measure => simp [intOf]; omega
    · have hend : grid_flt a0 t f (V * a0.toNat) = grid_flt a0 t f (a0 * a1).toNat := by
        have e := grid_flt_rows a0 t f V (a1.toNat - V) (by omega) (fun q q1 q2 => by rw [HYY.out]; omega)
        rw [← e, show V + (a1.toNat - V) = a1.toNat by omega, Int.toNat_mul (by omega) (by omega), Nat.mul_comm]
      have HE := Lib.hid hend
      clear hend
      gi_wp2
      go_end0
      rw [← HE.out]; exact ⟨⟨_, rfl⟩, .inl hJ⟩
/-- the function value that around hands back -/
theorem grid_around_any (a0 a1 : Int) (s : ByteArray) (t f : Int) (w : World) : Calls Try.prog 48 #[.agg #[.int .i64 a0, .int .i64 a1, .string s], .int .i64 t, .int .i64 f] w fun e w' => e = .returned (.func (.func 51) #[] #[.pointer (some ⟨w.heap.size, 0, none⟩), .pointer (some ⟨w.heap.size + 1, 0, none⟩), .pointer (some ⟨w.heap.size + 1 + 1, 0, none⟩)]) ∧ w' = ((w.alloc (.cells #[.int .i64 a0, .int .i64 a1, .string s] 77)).alloc (.cells #[.int .i64 t] 3)).alloc (.cells #[.int .i64 f] 3) := by
  go_enter Try.func48, Try.ntmps48
  go_wp2
  go_ret
  exact ⟨rfl, rfl⟩
theorem grid_around_stops (n : Nat) (b1 b2 b3 : Nat) (a0 a1 : Int) (s : ByteArray) (t f x y : Int) (w : World) (p q : Nat) (h1 : p ≤ b1 ∧ b1 < q) (h2 : p ≤ b2 ∧ b2 < q) (h3 : p ≤ b3 ∧ b3 < q) (hq : q ≤ w.heap.size)
    (g1 : 1 ≤ a0 ∧ a0 ≤ 64) (g2 : 1 ≤ a1 ∧ a1 ≤ 64) (gf : 0 ≤ f ∧ f ≤ 128) (gx : 0 ≤ x ∧ x < a0) (gy : 0 ≤ y ∧ y < a1) (hx : t % a0 = x) (hy : t / a0 = y) (hXY : grid_Map_XY.f a0 a1 s t = some (x, y))
    (hc1 : w.heap[b1]? = some (.cells #[.int .i64 a0, .int .i64 a1, .string s] 77 (0, 0))) (hc2 : w.heap[b2]? = some (.cells #[.int .i64 t] 3 (0, 0))) (hc3 : w.heap[b3]? = some (.cells #[.int .i64 f] 3 (0, 0))) :
    SeqStopsK Fence.wide n Try.prog 51 #[.pointer (some ⟨b1, 0, none⟩), .pointer (some ⟨b2, 0, none⟩), .pointer (some ⟨b3, 0, none⟩)] (fun z : Int => #[Value.int .i64 z]) (grid_Keep p q) (fun ys => ys = grid_flt a0 t f (a0 * a1).toNat) (fun _ => True) 4096 w := fun l J Jx W hW hJ _ hY h0 =>
  grid_around1_in n l b1 b2 b3 p q a0 a1 s t f x y h1 h3 g1 g2 gf gx gy hx hy hXY J Jx hY W ((hW.block b1 (by omega)).trans hc1) ((hW.block b2 (by omega)).trans hc2) ((hW.block b3 (by omega)).trans hc3) h0 (fun pre A B hAB hA => hJ pre A B none hA (grown_of_below hAB none) (by simp)) (Nat.le_trans hq hW.size)
set_option maxRecDepth 100000 in
set_option maxHeartbeats 2000000 in
theorem grid_Map_Around.in_ (a0 : Int) (a1 : Int) (s : ByteArray) (t : Int) (f : Int) (w : World) (g1 : 1 ≤ a0 ∧ a0 ≤ 64) (g2 : 1 ≤ a1 ∧ a1 ≤ 64) (hs : (s.size : Int) = a0 * a1) (ht : 0 ≤ t ∧ t < (s.size : Int)) (hf : 0 ≤ f) :
    Calls Try.prog 36 #[.agg #[.int .i64 a0, .int .i64 a1, .string s], .int .i64 t, .int .i64 f] w fun e w' => ∃ v0_ : Value, e = .returned (v0_) ∧ Kd.R (Kd.int .i64) 3 w' w.heap.size (fun _ => True) v0_ (grid_flt a0 t (if 128 < f then 128 else f) (a0 * a1).toNat) ∧ Below w.heap.size w w' := by
  have A : grid_Map_On.f a0 a1 s t = some true := by
    unfold grid_Map_On.f
    rw [if_pos ht.1]; simp; omega
  have A2 : grid_Map_XY.f a0 a1 s t = some (t % a0, t / a0) := by
    unfold grid_Map_XY.f
    rw [A]
    simp only [Option.bind_some]
    rw [if_pos trivial, if_neg (by omega), Int.tmod_eq_emod_of_nonneg ht.1, Int.tdiv_eq_ediv_of_nonneg ht.1]
    have e : wrap64 (t / a0) = t / a0 := by
      have d1 : 0 ≤ t / a0 := Int.ediv_nonneg ht.1 (by omega)
      have d2 : t / a0 ≤ t := Int.ediv_le_self _ ht.1
      have d3 : a0 * a1 ≤ 64 * 64 := Int.mul_le_mul (by omega) (by omega) (by omega) (by omega)
      unfold wrap64
      omega
    rw [e]
  have q1 : 0 ≤ t % a0 ∧ t % a0 < a0 := ⟨Int.emod_nonneg _ (by omega), Int.emod_lt_of_pos _ (by omega)⟩
  have q2 : 0 ≤ t / a0 ∧ t / a0 < a1 := ⟨Int.ediv_nonneg ht.1 (by omega), Int.ediv_lt_of_lt_mul (by omega) (by rw [Int.mul_comm]; omega)⟩
  have hA := Lib.hid A
  have hA2 := Lib.hid A2
  have HS := Lib.hid hs
  have HQ1 := Lib.hid q1; have HQ2 := Lib.hid q2
  obtain ⟨F, hF⟩ : ∃ F : Int, (if 128 < f then 128 else f) = F := ⟨_, rfl⟩
  have gF : 0 ≤ F ∧ F ≤ 128 := by split at hF <;> omega
  rw [hF]
  obtain ⟨i0, hi, hz0, hz1, hz2⟩ := info_parts info3
  clear A A2 hs ht q1 q2
  refine (callsIn_wide (n := 9)).1 ?_
  refine callsIn_of_wp_marks Try.func36 rfl trivial ?_ rfl
  simp only [Try.ntmps36, List.size_toArray, List.length_cons, List.length_nil, Nat.reduceAdd, Nat.reduceSub, Array.replicate_succ, Array.replicate_zero, List.push_toArray, List.append_toArray, List.nil_append, List.cons_append]
  gi_wp2
  refine ⟨trivial, ?_⟩
  refine (callsIn_wide.2 (grid_Map_On.calls a0 a1 s t true _ hA.out)).mono ?_; rintro e w1 ⟨rfl, hb⟩
  have B := below_then ((Below.refl w.heap.size w).alloc (Nat.le_refl _) _) (by simp) hb
  have BK : w1.heap[w.heap.size]? = some (.cells #[.int .i64 a0, .int .i64 a1, .string s] 77 (0, 0)) := blk_below (heap_alloc_new w _) hb
  clear hb
  have hc0 : w1.cell? ⟨w.heap.size, 0, none⟩ = some (.int .i64 a0) := (blk_cell BK 0).trans rfl
  have hc1 : w1.cell? ⟨w.heap.size, 1, none⟩ = some (.int .i64 a1) := (blk_cell BK 1).trans rfl
  have hc2 : w1.cell? ⟨w.heap.size, 2, none⟩ = some (.string s) := (blk_cell BK 2).trans rfl
  have hlt := blk_lt BK
  gi_wp2
  refine ⟨trivial, ?_⟩
  have B2 : Below w.heap.size w (w1.alloc (.cells #[.slice none 0 0] 83)) := B.alloc B.size _
  have BX : Boxed (w1.alloc (.cells #[.slice none 0 0] 83)) w1.heap.size 83 (.slice none 0 0) := Boxed.new _ _ _
  clear hc0 hc1 hc2 hlt BK
  generalize hw2 : w1.alloc (.cells #[.slice none 0 0] 83) = w2 at *
  have hsz2 : w2.heap.size = w1.heap.size + 1 := by rw [← hw2]; simp
  clear hw2
  refine (callsIn_wide.2 (grid_around_any a0 a1 s t F _)).mono ?_; rintro e w' ⟨rfl, rfl⟩
  gi_wp2
  have b1 : (((w2.alloc (.cells #[.int .i64 a0, .int .i64 a1, .string s] 77)).alloc (.cells #[.int .i64 t] 3)).alloc (.cells #[.int .i64 F] 3)).heap[w1.heap.size + 1]? = some (.cells #[.int .i64 a0, .int .i64 a1, .string s] 77 (0, 0)) := by
    rw [← hsz2]; exact blk_alloc (blk_alloc (heap_alloc_new w2 _) _) _
  have b2 : (((w2.alloc (.cells #[.int .i64 a0, .int .i64 a1, .string s] 77)).alloc (.cells #[.int .i64 t] 3)).alloc (.cells #[.int .i64 F] 3)).heap[w1.heap.size + 1 + 1]? = some (.cells #[.int .i64 t] 3 (0, 0)) := by
    have := heap_alloc_new (w2.alloc (.cells #[.int .i64 a0, .int .i64 a1, .string s] 77)) (.cells #[.int .i64 t] 3)
    rw [World.size_alloc, hsz2] at this
    exact blk_alloc this _
  have b3 : (((w2.alloc (.cells #[.int .i64 a0, .int .i64 a1, .string s] 77)).alloc (.cells #[.int .i64 t] 3)).alloc (.cells #[.int .i64 F] 3)).heap[w1.heap.size + 1 + 1 + 1]? = some (.cells #[.int .i64 F] 3 (0, 0)) := by
    have := heap_alloc_new ((w2.alloc (.cells #[.int .i64 a0, .int .i64 a1, .string s] 77)).alloc (.cells #[.int .i64 t] 3)) (.cells #[.int .i64 F] 3)
    rw [World.size_alloc, World.size_alloc, hsz2] at this
    exact this
  have B3 : Below w.heap.size w (((w2.alloc (.cells #[.int .i64 a0, .int .i64 a1, .string s] 77)).alloc (.cells #[.int .i64 t] 3)).alloc (.cells #[.int .i64 F] 3)) := by
    have := B2.size
    exact ((B2.alloc this _).alloc (by simp; omega) _).alloc (by simp; omega) _
  have BX3 : Boxed (((w2.alloc (.cells #[.int .i64 a0, .int .i64 a1, .string s] 77)).alloc (.cells #[.int .i64 t] 3)).alloc (.cells #[.int .i64 F] 3)) w1.heap.size 83 (.slice none 0 0) := ((BX.alloc _).alloc _).alloc _
  have hsz3 : (((w2.alloc (.cells #[.int .i64 a0, .int .i64 a1, .string s] 77)).alloc (.cells #[.int .i64 t] 3)).alloc (.cells #[.int .i64 F] 3)).heap.size = w1.heap.size + 4 := by simp [hsz2]
  generalize ((w2.alloc (.cells #[.int .i64 a0, .int .i64 a1, .string s] 77)).alloc (.cells #[.int .i64 t] 3)).alloc (.cells #[.int .i64 F] 3) = w3 at *
  clear BX B2 hsz2
  have hs1 := B.size
  have hlen0 : ∀ pre : List Int, pre.length < 4096 → pre.length + 1 ≤ maxLen ∧ (pre.length + 1) * 8 ≤ 140737488355328 := fun pre h => by unfold maxLen; omega
  refine wpIn_rangeFunc_ownG rfl (by omega) (gf := 51) (lb := #[.pointer (some ⟨w1.heap.size + 1, 0, none⟩), .pointer (some ⟨w1.heap.size + 1 + 1, 0, none⟩), .pointer (some ⟨w1.heap.size + 1 + 1 + 1, 0, none⟩)]) rfl trivial (enters_of Try.func51 (by kernel_rfl) rfl)
    (grid_around_stops 8 (w1.heap.size + 1) (w1.heap.size + 1 + 1) (w1.heap.size + 1 + 1 + 1) a0 a1 s t F (t % a0) (t / a0) w3 (w1.heap.size + 1) (w1.heap.size + 4) (by omega) (by omega) (by omega) (by omega) g1 g2 gF HQ1.out HQ2.out rfl rfl hA2.out b1 b2 b3)
    (fun hA hB => hA.trans hB) (fun W l o o' hl ho hc hw k hk1 hk2 => (grownBy_putObj' W l o').block k (by have := (Array.getElem?_eq_some_iff.1 ho).1; omega) (by simp; omega)) (Below.refl _ _) (fun _ => rfl)
    (fun (pre : List Int) W => (∃ v, Boxed W w1.heap.size 83 v ∧ W.ownsRow w3.heap.size 3 1 v pre.length (pre.map (Value.int .i64)) ∧ True) ∧ w3.heap.size ≤ W.heap.size ∧ Below w.heap.size w W)
    (fun _ _ _ => False)
    (OwnFrom.and (Own.from (holdsRow_own w3.heap.size w1.heap.size 83 3 1 (fun pre : List Int => pre.length) (fun pre : List Int => pre.map (Value.int .i64)) (fun _ _ => True)) _) (OwnFrom.and (fun s A B row hs hg hr => Nat.le_trans hs hg.size) (ownFrom_below (Nat.le_refl _) (by omega))))
    (fun _ _ _ _ _ hs _ _ => hs)
    ⟨⟨_, BX3, World.ownsRow_nil _ _ _ _, trivial⟩, Nat.le_refl _, B3⟩
    (fun x => { tmps := #[.agg #[.int .i64 a0, .int .i64 a1, .string s], .int .i64 t, .int .i64 f, .pointer (some ⟨w.heap.size, 0, none⟩), undef, undef, .slice none 0 0, .pointer (some ⟨w1.heap.size, 0, none⟩), .int .i64 x, .agg #[.int .i64 a0, .int .i64 a1, .string s], .int .i64 t, .bool true, .bool false, .bool false, .int .i64 f, .bool (decide (f < 0)), .bool (decide (f < 0)), .agg #[.int .i64 a0, .int .i64 a1, .string s], .int .i64 t, .int .i64 f, .int .i64 F, .func (.func 51) #[] #[.pointer (some ⟨w1.heap.size + 1, 0, none⟩), .pointer (some ⟨w1.heap.size + 1 + 1, 0, none⟩), .pointer (some ⟨w1.heap.size + 1 + 1 + 1, 0, none⟩)], .int .i64 x, undef, undef, undef, undef, undef], defers := [] }) ?assign ?body ?done ?stop
  case assign =>
    intro l x W K hK
    gi_wp2
    exact hK
  case body =>
    rintro l pre x W ⟨⟨v, hv, hrow, -⟩, hsz, hB⟩ hlt
    have hc := hv.cell
    obtain ⟨hl1, hl2⟩ := hlen0 pre hlt
    have hrow0 := ownsRow_base (Nat.le_trans B3.size (Nat.le_refl _)) hrow
    gi_wp2_with (gi_at_builtin; refine wpListIn_append_own _ rfl _ _ 83 rfl w3.heap.size 3 i0 (.int .i64 0) 1 8 Try.underlying83 hi hz0 hz1 hz2 rfl (by decide) _ _ _ rfl (hrow.alloc _) ⟨W.heap.size, 0, none⟩ 1 1 [.int .i64 x] rfl rfl (cell_one_new _ _ _) (by simp [Value.oneCell']) hl1 hl2 (by simp; omega) ?_; intro v' w9 hown' hgrow _; obtain ⟨g', cap', rfl⟩ := ownsRow_succ hown'; obtain ⟨hv1, hv2, hr2, hk2, hb2⟩ := hv.appended (by decide) hrow0 hB.size hs1 (ownsRow_base B3.size hown') hgrow; have hc1 := hv1.cell; have hf1 := hv1.frozen)
    have hrow2 : (w9.setCell ⟨w1.heap.size, 0, none⟩ (.slice (some ⟨g', 0, none⟩) (pre.length + 1) cap')).ownsRow w3.heap.size 3 1 (.slice (some ⟨g', 0, none⟩) (pre.length + 1) cap') (pre ++ [x]).length ((pre ++ [x]).map (Value.int .i64)) := by
      have := hown'.kept (grownBy_setCell' w9 w1.heap.size (.slice (some ⟨g', 0, none⟩) (pre.length + 1) cap')) (.inr (hv1.not_row (by decide) hown').symm)
      simpa using this
    refine ⟨hk2.from _, fun k hk1 hk2 => ?_, ⟨⟨_, hv2, hrow2, trivial⟩, Nat.le_trans hsz hb2.size, hB.trans hb2⟩⟩
    have e1 : (w9.setCell ⟨w1.heap.size, 0, none⟩ (.slice (some ⟨g', 0, none⟩) (pre.length + 1) cap')).heap[k]? = w9.heap[k]? := (grownBy_setCell' w9 w1.heap.size _).block k (by have := hgrow.size; simp at this; omega) (by simp; omega)
    rw [e1, hgrow.block k (by simp; omega) (fun e => by have := ownsRow_ge hrow k e.symm; omega)]
    exact Below.heap_alloc W _ k (by omega)
  case done =>
    rintro D ys W hD rfl ⟨⟨v, hv, hrow, -⟩, hsz, hB⟩ hK
    have hc := hv.cell
    gi_wp2
    refine ⟨by simp, .inl ⟨_, _, rfl, run_takeDeferred hK, ?_⟩⟩
    refine ⟨_, results_tmp rfl _ _ _, v, rfl, ?_, hB.trans (belowK_b (w := w) (Nat.le_refl _) W D _ _ (by omega) hK rfl rfl)⟩
    exact grid_R_of_own (ownsRow_base B3.size (ownsRow_putObj hrow _ hK rfl))
  case stop =>
    rintro D c pre W _ _ h _
    exact h.elim
def grid_Map_Around.f (a0_0 : Int) (a0_1 : Int) (a0_2 : ByteArray) (a1 : Int) (a2 : Int) : Option (List Int) :=
  if 1 ≤ a0_0 ∧ a0_0 ≤ 64 ∧ 1 ≤ a0_1 ∧ a0_1 ≤ 64 ∧ (a0_2.size : Int) = a0_0 * a0_1 then (if 0 ≤ a1 ∧ a1 < (a0_2.size : Int) ∧ 0 ≤ a2 then some (grid_flt a0_0 a1 (if 128 < a2 then 128 else a2) (a0_0 * a0_1).toNat) else some []) else none
theorem grid_Map_Around.out (a0 : Int) (a1 : Int) (s : ByteArray) (t : Int) (f : Int) (w : World) (h : ¬ (0 ≤ t ∧ t < (s.size : Int) ∧ 0 ≤ f)) :
    Calls Try.prog 36 #[.agg #[.int .i64 a0, .int .i64 a1, .string s], .int .i64 t, .int .i64 f] w fun e w' => e = .returned (.slice none 0 0) ∧ Below w.heap.size w w' := by
  by_cases ht : 0 ≤ t ∧ t < (s.size : Int)
  · have hf : f < 0 := by omega
    have A : grid_Map_On.f a0 a1 s t = some true := by
      unfold grid_Map_On.f
      rw [if_pos ht.1]; simp; omega
    have hA := Lib.hid A
    clear h A ht
    go_enter Try.func36, Try.ntmps36
    go_wp2_with fail
    refine (grid_Map_On.calls a0 a1 s t true _ hA.out).mono ?_; rintro e w1 ⟨rfl, hb⟩
    have B := below_then ((Below.refl w.heap.size w).alloc (Nat.le_refl _) _) (by simp) hb
    clear hb
    go_wp2_with fail
    go_ret
    exact ⟨rfl, B⟩
  · have A : grid_Map_On.f a0 a1 s t = some false := by
      unfold grid_Map_On.f
      by_cases h0 : t ≥ 0
      · rw [if_pos h0]; simp; omega
      · rw [if_neg h0]
    have hA := Lib.hid A
    clear h A ht
    go_enter Try.func36, Try.ntmps36
    go_wp2_with fail
    refine (grid_Map_On.calls a0 a1 s t false _ hA.out).mono ?_; rintro e w1 ⟨rfl, hb⟩
    have B := below_then ((Below.refl w.heap.size w).alloc (Nat.le_refl _) _) (by simp) hb
    clear hb
    go_wp2_with fail
    go_ret
    exact ⟨rfl, B⟩
theorem grid_Map_Around.calls (a0_0 : Int) (a0_1 : Int) (a0_2 : ByteArray) (a1 : Int) (a2 : Int) (r : List Int) (w : World) (h : grid_Map_Around.f a0_0 a0_1 a0_2 a1 a2 = some r) :
    Calls Try.prog 36 #[.agg #[.int .i64 a0_0, .int .i64 a0_1, .string a0_2], .int .i64 a1, .int .i64 a2] w fun e w' => ∃ v0_ : Value, e = .returned (v0_) ∧ Kd.R (Kd.int .i64) 3 w' w.heap.size (fun _ => True) v0_ r ∧ Below w.heap.size w w' := by
  unfold grid_Map_Around.f at h
  by_cases hd : 1 ≤ a0_0 ∧ a0_0 ≤ 64 ∧ 1 ≤ a0_1 ∧ a0_1 ≤ 64 ∧ (a0_2.size : Int) = a0_0 * a0_1
  · rw [if_pos hd] at h
    by_cases ht : 0 ≤ a1 ∧ a1 < (a0_2.size : Int) ∧ 0 ≤ a2
    · rw [if_pos ht] at h
      obtain rfl := Option.some.inj h
      exact grid_Map_Around.in_ a0_0 a0_1 a0_2 a1 a2 w ⟨hd.1, hd.2.1⟩ ⟨hd.2.2.1, hd.2.2.2.1⟩ hd.2.2.2.2 ⟨ht.1, ht.2.1⟩ ht.2.2
    · rw [if_neg ht] at h
      obtain rfl := Option.some.inj h
      exact (grid_Map_Around.out a0_0 a0_1 a0_2 a1 a2 w ht).mono fun e w' ⟨he, hb⟩ => ⟨_, he, Kd.R_nil _ _ _ _ _, hb⟩
  · rw [if_neg hd] at h
    exact absurd h (by simp)
end


/-! ### grid_Map_Far: function 37 -/
def grid_Map_Far.j0 : Nat → Int → Int → Bool → Int → Int → ByteArray → Option (Int)
  | 0, _, _, _, _, _, _ => none
  | k + 1, x1, x2, x20, x106000, x106001, x106002 => if x20 = true then (some (-1)) else ((grid_Map_XY.f x106000 x106001 x106002 x1).bind fun bt108 => ((grid_Map_XY.f x106000 x106001 x106002 x2).bind fun bt110 => (some (wrap64 ((mx (wrap64 (bt108.1 - bt110.1)) (wrap64 (bt110.1 - bt108.1))) + (mx (wrap64 (bt108.2 - bt110.2)) (wrap64 (bt110.2 - bt108.2))))))))
def grid_Map_Far.f (k : Nat) (a0_0 : Int) (a0_1 : Int) (a0_2 : ByteArray) (a1 : Int) (a2 : Int) : Option (Int) := (grid_Map_On.f a0_0 a0_1 a0_2 a1).bind fun t106 => (if t106 = true then ((grid_Map_On.f a0_0 a0_1 a0_2 a2).bind fun t107 => (grid_Map_Far.j0 k a1 a2 (!t107) a0_0 a0_1 a0_2)) else (grid_Map_Far.j0 k a1 a2 true a0_0 a0_1 a0_2))
theorem grid_Map_Far.mono_l : ∀ k, (∀ y0 y1 y2 y3 y4 y5, LeO (grid_Map_Far.j0 k y0 y1 y2 y3 y4 y5) (grid_Map_Far.j0 (k + 1) y0 y1 y2 y3 y4 y5))
  | 0 => fun _ _ _ _ _ _ r h => by simp [grid_Map_Far.j0] at h
  | k + 1 => by
    have ih0 := grid_Map_Far.mono_l k
    · intro y0 y1 y2 y3 y4 y5
      unfold grid_Map_Far.j0
      repeat' first
      | (with_reducible exact ih0 _ _ _ _ _ _)
      | (with_reducible exact LeO.refl _)
      | (with_reducible exact LeO.none _)
      | (with_reducible refine LeO.ite ?_ ?_)
      | (with_reducible refine LeO.bind ?_ (fun _ => ?_))
      | exact ih0 _ _ _ _ _ _
      | exact LeO.none _
      | refine LeO.ite ?_ ?_
      | refine LeO.bind ?_ (fun _ => ?_)
theorem grid_Map_Far.mono : ∀ a0 a1 a2 a3 a4 k, LeO (grid_Map_Far.f k a0 a1 a2 a3 a4) (grid_Map_Far.f (k + 1) a0 a1 a2 a3 a4) := by
  intro a0 a1 a2 a3 a4 k
  have ih0 := grid_Map_Far.mono_l k
  unfold grid_Map_Far.f
  repeat' first
      | (with_reducible exact ih0 _ _ _ _ _ _)
      | (with_reducible exact LeO.refl _)
      | (with_reducible exact LeO.none _)
      | (with_reducible refine LeO.ite ?_ ?_)
      | (with_reducible refine LeO.bind ?_ (fun _ => ?_))
      | exact ih0 _ _ _ _ _ _
      | exact LeO.none _
      | refine LeO.ite ?_ ?_
      | refine LeO.bind ?_ (fun _ => ?_)
set_option maxHeartbeats 8000000 in
set_option maxRecDepth 100000 in
theorem grid_Map_Far.calls (k : Nat) (a0_0 : Int) (a0_1 : Int) (a0_2 : ByteArray) (a1 : Int) (a2 : Int) (r : Int) (w : World) (h : grid_Map_Far.f k a0_0 a0_1 a0_2 a1 a2 = some r) :
    Calls Try.prog 37 #[.agg #[.int .i64 a0_0, .int .i64 a0_1, .string a0_2], .int .i64 a1, .int .i64 a2] w fun e w' => e = .returned (.int .i64 r) ∧ Below w.heap.size w w' := by
  have hu77 := Try.underlying77
  have HB := Aside0.mk (Below.refl w.heap.size w)
  have H : ((grid_Map_On.f a0_0 a0_1 a0_2 a1).bind fun t106 => (if t106 = true then ((grid_Map_On.f a0_0 a0_1 a0_2 a2).bind fun t107 => (grid_Map_Far.j0 k a1 a2 (!t107) a0_0 a0_1 a0_2)) else (grid_Map_Far.j0 k a1 a2 true a0_0 a0_1 a0_2))) = some r := h
  clear h
  have HC4 := Aside0.mk H
  clear H
  go_enter Try.func37, Try.ntmps37
  go_upto_region 1 with (first | ((with_reducible refine gate_dst (N := 3) rfl ?_); refine box_event ?hg (N := 3) ?hd (cs := #[.int .i64 a0_0, .int .i64 a0_1, .string a0_2]) (t := 77) ?hr ?_; (case hd => rfl); (case hg => rfl); (case hr => first | (go_simp; done) | (go_simp; rfl)); intro gb105 hg w5 hbox hb; have n0_ := Aside0.mk (below_step (by repeat (first | (with_reducible first | exact HB.out | apply below_alloc | apply pw_below_drewN | apply below_drew1) | exact HB.out)) hb); have n1_ := Aside0.mk (hbox); have n2_ := Aside0.mk ((by rw [hg]; exact (below_size (by repeat (first | (with_reducible first | exact HB.out | apply below_alloc | apply pw_below_drewN | apply below_drew1) | exact HB.out))) : w.heap.size ≤ gb105)); have n3_ := Aside0.mk ((by rw [hg]; exact (below_size (by repeat (first | (with_reducible first | exact HB.out | apply below_alloc | apply pw_below_drewN | apply below_drew1) | exact HB.out))) : w.heap.size ≤ gb105)); clear HB; have HB := n0_; have BK105 := n1_; have GW105 := n2_; have GE105 := n3_; clear n0_ n1_ n2_ n3_; clear hb hbox hg))
  (try simp only [Act.put, List.setIfInBounds_toArray, List.set_cons_zero, List.set_cons_succ])
  go_cut [20] (fun v20 wc => ∃ (kq : Nat) (x20_3 : Bool), v20 = .bool x20_3 ∧ Aside0 (grid_Map_Far.j0 kq a1 a2 x20_3 a0_0 a0_1 a0_2 = some r) ∧ Aside0 (kq ≤ k) ∧ Aside0 (wc.heap[gb105]? = some (.cells #[.int .i64 a0_0, .int .i64 a0_1, .string a0_2] 77 (0, 0))) ∧ Aside0 (Below w.heap.size w wc))
  case first =>
    have H := HC4.out
    clear HC4
    replace H := Option.bind_eq_some_iff.mp H
    obtain ⟨t106, A60, H⟩ := H
    replace H : (if t106 = true then ((grid_Map_On.f a0_0 a0_1 a0_2 a2).bind fun t107 => (grid_Map_Far.j0 k a1 a2 (!t107) a0_0 a0_1 a0_2)) else (grid_Map_Far.j0 k a1 a2 true a0_0 a0_1 a0_2)) = some r := H
    have A6 := Aside0.mk A60
    clear A60
    by_cases c7 : t106 = true
    · subst c7
      have H1 : ((grid_Map_On.f a0_0 a0_1 a0_2 a2).bind fun t107 => (grid_Map_Far.j0 k a1 a2 (!t107) a0_0 a0_1 a0_2)) = some r := by rw [if_pos rfl] at H; exact H
      clear H
      have H := H1
      clear H1
      replace H := Option.bind_eq_some_iff.mp H
      obtain ⟨t107, A80, H⟩ := H
      replace H : (grid_Map_Far.j0 k a1 a2 (!t107) a0_0 a0_1 a0_2) = some r := H
      have A8 := Aside0.mk A80
      clear A80
      have H' := Aside0.mk H
      clear H
      have hcz9_0 : w5.cell? ⟨gb105, 0, none⟩ = some (.int .i64 a0_0) := (blk_cell BK105.out 0).trans rfl
      have hcz9_1 : w5.cell? ⟨gb105, 1, none⟩ = some (.int .i64 a0_1) := (blk_cell BK105.out 1).trans rfl
      have hcz9_2 : w5.cell? ⟨gb105, 2, none⟩ = some (.string a0_2) := (blk_cell BK105.out 2).trans rfl
      have hfz9_0 := blk_frozen BK105.out 0
      have hfz9_1 := blk_frozen BK105.out 1
      have hfz9_2 := blk_frozen BK105.out 2
      go_wp2_with (first | ((with_reducible refine gate_callee (f := 35) rfl ?_); refine goesL_ (some 13) rfl rfl Try.func35 (by kernel_rfl) rfl #[.agg #[.int .i64 a0_0, .int .i64 a0_1, .string a0_2], .int .i64 a1] rfl (by (try simp only [List.map_toArray, List.map_cons, List.map_nil]); first | done | rfl | (simp only [List.length_drop, List.length_take]; rfl)) ?_; (with_reducible refine (grid_Map_On.calls a0_0 a0_1 a0_2 a1 true _ A6.out).mono ?_); rintro e w10 ⟨rfl, hb⟩; refine ⟨_, rfl, ?_⟩; have n0_ := Aside0.mk (blk_below (g := gb105) (o := .cells #[.int .i64 a0_0, .int .i64 a0_1, .string a0_2] 77 (0, 0)) (by (with_reducible repeat (first | refine blk_drewN ?_ _ | refine blk_drew ?_ | refine blk_alloc ?_ _)); exact BK105.out) hb); have n1_ := Aside0.mk (below_step (by repeat (first | (with_reducible first | exact HB.out | apply below_alloc | apply pw_below_drewN | apply below_drew1 | refine below_set ?_ GE105.out) | exact HB.out)) hb); clear BK105; clear HB; have BK105 := n0_; have HB := n1_; clear n0_ n1_; (try clear hb); (try clear hb2); (try clear hk); (try clear hi); have hcz11_0 : w10.cell? ⟨gb105, 0, none⟩ = some (.int .i64 a0_0) := (blk_cell BK105.out 0).trans rfl; have hcz11_1 : w10.cell? ⟨gb105, 1, none⟩ = some (.int .i64 a0_1) := (blk_cell BK105.out 1).trans rfl; have hcz11_2 : w10.cell? ⟨gb105, 2, none⟩ = some (.string a0_2) := (blk_cell BK105.out 2).trans rfl; have hfz11_0 := blk_frozen BK105.out 0; have hfz11_1 := blk_frozen BK105.out 1; have hfz11_2 := blk_frozen BK105.out 2) | (go_at_call 35; (with_reducible refine (grid_Map_On.calls a0_0 a0_1 a0_2 a2 t107 _ A8.out).mono ?_); rintro e w12 ⟨rfl, hb⟩; have n0_ := Aside0.mk (blk_below (g := gb105) (o := .cells #[.int .i64 a0_0, .int .i64 a0_1, .string a0_2] 77 (0, 0)) (by (with_reducible repeat (first | refine blk_drewN ?_ _ | refine blk_drew ?_ | refine blk_alloc ?_ _)); exact BK105.out) hb); have n1_ := Aside0.mk (below_step (by repeat (first | (with_reducible first | exact HB.out | apply below_alloc | apply pw_below_drewN | apply below_drew1 | refine below_set ?_ GE105.out) | exact HB.out)) hb); clear BK105; clear HB; have BK105 := n0_; have HB := n1_; clear n0_ n1_; (try clear hb); (try clear hb2); (try clear hk); (try clear hi)))
      go_meet
      case rel => exact ⟨_, (!t107), (by first | rfl | (simp; done) | (simp [*]; done)), H', ⟨by first | omega | exact Nat.le_refl _⟩, ⟨by (with_reducible repeat (first | refine blk_drewN ?_ _ | refine blk_drew ?_ | refine blk_alloc ?_ _)); exact BK105.out⟩, ⟨by repeat (first | (with_reducible first | exact HB.out | apply below_alloc | apply pw_below_drewN | apply below_drew1 | refine below_set ?_ GE105.out) | exact HB.out)⟩⟩
    · replace c7 := Bool.eq_false_iff.mpr c7
      subst c7
      have H1 : (grid_Map_Far.j0 k a1 a2 true a0_0 a0_1 a0_2) = some r := by rw [if_neg (show ¬ (false = true) by decide)] at H; exact H
      clear H
      have H := H1
      clear H1
      have H' := Aside0.mk H
      clear H
      have hcz13_0 : w5.cell? ⟨gb105, 0, none⟩ = some (.int .i64 a0_0) := (blk_cell BK105.out 0).trans rfl
      have hcz13_1 : w5.cell? ⟨gb105, 1, none⟩ = some (.int .i64 a0_1) := (blk_cell BK105.out 1).trans rfl
      have hcz13_2 : w5.cell? ⟨gb105, 2, none⟩ = some (.string a0_2) := (blk_cell BK105.out 2).trans rfl
      have hfz13_0 := blk_frozen BK105.out 0
      have hfz13_1 := blk_frozen BK105.out 1
      have hfz13_2 := blk_frozen BK105.out 2
      go_wp2_with (first | ((with_reducible refine gate_callee (f := 35) rfl ?_); refine goesL_ (some 13) rfl rfl Try.func35 (by kernel_rfl) rfl #[.agg #[.int .i64 a0_0, .int .i64 a0_1, .string a0_2], .int .i64 a1] rfl (by (try simp only [List.map_toArray, List.map_cons, List.map_nil]); first | done | rfl | (simp only [List.length_drop, List.length_take]; rfl)) ?_; (with_reducible refine (grid_Map_On.calls a0_0 a0_1 a0_2 a1 false _ A6.out).mono ?_); rintro e w14 ⟨rfl, hb⟩; refine ⟨_, rfl, ?_⟩; have n0_ := Aside0.mk (blk_below (g := gb105) (o := .cells #[.int .i64 a0_0, .int .i64 a0_1, .string a0_2] 77 (0, 0)) (by (with_reducible repeat (first | refine blk_drewN ?_ _ | refine blk_drew ?_ | refine blk_alloc ?_ _)); exact BK105.out) hb); have n1_ := Aside0.mk (below_step (by repeat (first | (with_reducible first | exact HB.out | apply below_alloc | apply pw_below_drewN | apply below_drew1 | refine below_set ?_ GE105.out) | exact HB.out)) hb); clear BK105; clear HB; have BK105 := n0_; have HB := n1_; clear n0_ n1_; (try clear hb); (try clear hb2); (try clear hk); (try clear hi)))
      go_meet
      case rel => exact ⟨_, (true), (by first | rfl | (simp; done) | (simp [*]; done)), H', ⟨by first | omega | exact Nat.le_refl _⟩, ⟨by (with_reducible repeat (first | refine blk_drewN ?_ _ | refine blk_drew ?_ | refine blk_alloc ?_ _)); exact BK105.out⟩, ⟨by repeat (first | (with_reducible first | exact HB.out | apply below_alloc | apply pw_below_drewN | apply below_drew1 | refine below_set ?_ GE105.out) | exact HB.out)⟩⟩
  case rest =>
    clear HC4
    try clear p2
    try clear c3
    try clear c7
    try clear hcz11_0
    try clear hcz11_1
    try clear hcz11_2
    try clear hcz13_0
    try clear hcz13_1
    try clear hcz13_2
    try clear hcz9_0
    try clear hcz9_1
    try clear hcz9_2
    try clear hfz11_0
    try clear hfz11_1
    try clear hfz11_2
    try clear hfz13_0
    try clear hfz13_1
    try clear hfz13_2
    try clear hfz9_0
    try clear hfz9_1
    try clear hfz9_2
    obtain ⟨kq, x20_3, rfl, HA, HJ3, BK105, HB⟩ := hcut
    cases kq with
    | zero => exact absurd HA.out (by simp [grid_Map_Far.j0])
    | succ kj3 =>
      have H := HA.out
      clear HA
      simp only [grid_Map_Far.j0] at H
      by_cases c15 : x20_3 = true
      · subst c15
        have H1 : (some (-1)) = some r := by rw [if_pos rfl] at H; exact H
        clear H
        have H := H1
        clear H1
        obtain rfl := Option.some.inj H
        go_wp2
        go_ret
        exact ⟨by first | rfl | (simp [errW_none, errW_some] <;> rfl) | (simp [*, errW_none, errW_some] <;> rfl), by repeat (first | (with_reducible first | exact HB.out | apply below_alloc | apply pw_below_drewN | apply below_drew1 | refine below_set ?_ GE105.out) | exact HB.out)⟩
      · replace c15 := Bool.eq_false_iff.mpr c15
        subst c15
        have H1 : ((grid_Map_XY.f a0_0 a0_1 a0_2 a1).bind fun bt108 => ((grid_Map_XY.f a0_0 a0_1 a0_2 a2).bind fun bt110 => (some (wrap64 ((mx (wrap64 (bt108.1 - bt110.1)) (wrap64 (bt110.1 - bt108.1))) + (mx (wrap64 (bt108.2 - bt110.2)) (wrap64 (bt110.2 - bt108.2)))))))) = some r := by rw [if_neg (show ¬ (false = true) by decide)] at H; exact H
        clear H
        have H := H1
        clear H1
        replace H := Option.bind_eq_some_iff.mp H
        obtain ⟨⟨t108, t109⟩, A160, H⟩ := H
        replace H : ((grid_Map_XY.f a0_0 a0_1 a0_2 a2).bind fun bt110 => (some (wrap64 ((mx (wrap64 (t108 - bt110.1)) (wrap64 (bt110.1 - t108))) + (mx (wrap64 (t109 - bt110.2)) (wrap64 (bt110.2 - t109))))))) = some r := H
        have A16 := Aside0.mk A160
        clear A160
        replace H := Option.bind_eq_some_iff.mp H
        obtain ⟨⟨t110, t111⟩, A170, H⟩ := H
        replace H : (some (wrap64 ((mx (wrap64 (t108 - t110)) (wrap64 (t110 - t108))) + (mx (wrap64 (t109 - t111)) (wrap64 (t111 - t109)))))) = some r := H
        have A17 := Aside0.mk A170
        clear A170
        obtain ⟨ji18, hji18⟩ : ∃ j_ : Int, (mx (wrap64 (t108 - t110)) (wrap64 (t110 - t108))) = j_ := ⟨_, rfl⟩
        replace H : (some (wrap64 ((ji18) + (mx (wrap64 (t109 - t111)) (wrap64 (t111 - t109)))))) = some r := by first | (rw [hji18] at H; exact H) | (simp only [hji18] at H ⊢; exact H)
        (try rw [hji18] at A16)
        (try rw [hji18] at A17)
        have hji18_ : (if (wrap64 (t108 - t110)) < (wrap64 (t110 - t108)) then (wrap64 (t110 - t108)) else (wrap64 (t108 - t110))) = ji18 := hji18
        obtain ⟨ji19, hji19⟩ : ∃ j_ : Int, (mx (wrap64 (t109 - t111)) (wrap64 (t111 - t109))) = j_ := ⟨_, rfl⟩
        replace H : (some (wrap64 ((ji18) + (ji19)))) = some r := by first | (rw [hji19] at H; exact H) | (simp only [hji19] at H ⊢; exact H)
        (try rw [hji19] at A16)
        (try rw [hji19] at A17)
        have hji19_ : (if (wrap64 (t109 - t111)) < (wrap64 (t111 - t109)) then (wrap64 (t111 - t109)) else (wrap64 (t109 - t111))) = ji19 := hji19
        obtain rfl := Option.some.inj H
        have hcz20_0 : wc.cell? ⟨gb105, 0, none⟩ = some (.int .i64 a0_0) := (blk_cell BK105.out 0).trans rfl
        have hcz20_1 : wc.cell? ⟨gb105, 1, none⟩ = some (.int .i64 a0_1) := (blk_cell BK105.out 1).trans rfl
        have hcz20_2 : wc.cell? ⟨gb105, 2, none⟩ = some (.string a0_2) := (blk_cell BK105.out 2).trans rfl
        have hfz20_0 := blk_frozen BK105.out 0
        have hfz20_1 := blk_frozen BK105.out 1
        have hfz20_2 := blk_frozen BK105.out 2
        go_wp2_with (first | ((with_reducible refine gate_callee (f := 47) rfl ?_); refine goesL_ (some 24) rfl rfl Try.func47 (by kernel_rfl) rfl #[.agg #[.int .i64 a0_0, .int .i64 a0_1, .string a0_2], .int .i64 a1] rfl (by (try simp only [List.map_toArray, List.map_cons, List.map_nil]); first | done | rfl | (simp only [List.length_drop, List.length_take]; rfl)) ?_; (with_reducible refine (grid_Map_XY.calls a0_0 a0_1 a0_2 a1 t108 t109 _ A16.out).mono ?_); rintro e w21 ⟨rfl, hb⟩; refine ⟨_, rfl, ?_⟩; have n0_ := Aside0.mk (blk_below (g := gb105) (o := .cells #[.int .i64 a0_0, .int .i64 a0_1, .string a0_2] 77 (0, 0)) (by (with_reducible repeat (first | refine blk_drewN ?_ _ | refine blk_drew ?_ | refine blk_alloc ?_ _)); exact BK105.out) hb); have n1_ := Aside0.mk (below_step (by repeat (first | (with_reducible first | exact HB.out | apply below_alloc | apply pw_below_drewN | apply below_drew1 | refine below_set ?_ GE105.out) | exact HB.out)) hb); clear BK105; clear HB; have BK105 := n0_; have HB := n1_; clear n0_ n1_; (try clear hb); (try clear hb2); (try clear hk); (try clear hi); have hcz22_0 : w21.cell? ⟨gb105, 0, none⟩ = some (.int .i64 a0_0) := (blk_cell BK105.out 0).trans rfl; have hcz22_1 : w21.cell? ⟨gb105, 1, none⟩ = some (.int .i64 a0_1) := (blk_cell BK105.out 1).trans rfl; have hcz22_2 : w21.cell? ⟨gb105, 2, none⟩ = some (.string a0_2) := (blk_cell BK105.out 2).trans rfl; have hfz22_0 := blk_frozen BK105.out 0; have hfz22_1 := blk_frozen BK105.out 1; have hfz22_2 := blk_frozen BK105.out 2) | ((with_reducible refine gate_callee (f := 47) rfl ?_); refine goesL_ (some 30) rfl rfl Try.func47 (by kernel_rfl) rfl #[.agg #[.int .i64 a0_0, .int .i64 a0_1, .string a0_2], .int .i64 a2] rfl (by (try simp only [List.map_toArray, List.map_cons, List.map_nil]); first | done | rfl | (simp only [List.length_drop, List.length_take]; rfl)) ?_; (with_reducible refine (grid_Map_XY.calls a0_0 a0_1 a0_2 a2 t110 t111 _ A17.out).mono ?_); rintro e w23 ⟨rfl, hb⟩; refine ⟨_, rfl, ?_⟩; have n0_ := Aside0.mk (blk_below (g := gb105) (o := .cells #[.int .i64 a0_0, .int .i64 a0_1, .string a0_2] 77 (0, 0)) (by (with_reducible repeat (first | refine blk_drewN ?_ _ | refine blk_drew ?_ | refine blk_alloc ?_ _)); exact BK105.out) hb); have n1_ := Aside0.mk (below_step (by repeat (first | (with_reducible first | exact HB.out | apply below_alloc | apply pw_below_drewN | apply below_drew1 | refine below_set ?_ GE105.out) | exact HB.out)) hb); clear BK105; clear HB; have BK105 := n0_; have HB := n1_; clear n0_ n1_; (try clear hb); (try clear hb2); (try clear hk); (try clear hi)))
        go_ret
        exact ⟨by first | rfl | (simp [errW_none, errW_some] <;> rfl) | (simp only [← hji18, ← hji19]; first | rfl | (simp [errW_none, errW_some] <;> rfl)) | (simp [*, errW_none, errW_some] <;> rfl), by repeat (first | (with_reducible first | exact HB.out | apply below_alloc | apply pw_below_drewN | apply below_drew1 | refine below_set ?_ GE105.out) | exact HB.out)⟩

/-! ### grid_Map_Is: function 52 -/
def grid_Map_Is.f (a0_0 : Int) (a0_1 : Int) (a0_2 : ByteArray) (a1 : Int) : Option (Int) := (grid_Map_On.f a0_0 a0_1 a0_2 a1).bind fun t113 => (if t113 = true then (if 0 ≤ a1 then (if a1 < (a0_2.size : Int) then (some (bt a0_2 a1)) else (none)) else (none)) else (some 1))
set_option maxHeartbeats 8000000 in
set_option maxRecDepth 100000 in
theorem grid_Map_Is.calls (a0_0 : Int) (a0_1 : Int) (a0_2 : ByteArray) (a1 : Int) (r : Int) (w : World) (h : grid_Map_Is.f a0_0 a0_1 a0_2 a1 = some r) :
    Calls Try.prog 52 #[.agg #[.int .i64 a0_0, .int .i64 a0_1, .string a0_2], .int .i64 a1] w fun e w' => e = .returned (.int .u8 r) ∧ Below w.heap.size w w' := by
  have hu77 := Try.underlying77
  have HB := Aside0.mk (Below.refl w.heap.size w)
  have H : ((grid_Map_On.f a0_0 a0_1 a0_2 a1).bind fun t113 => (if t113 = true then (if 0 ≤ a1 then (if a1 < (a0_2.size : Int) then (some (bt a0_2 a1)) else (none)) else (none)) else (some 1))) = some r := h
  clear h
  replace H := Option.bind_eq_some_iff.mp H
  obtain ⟨t113, A30, H⟩ := H
  replace H : (if t113 = true then (if 0 ≤ a1 then (if a1 < (a0_2.size : Int) then (some (bt a0_2 a1)) else (none)) else (none)) else (some 1)) = some r := H
  have A3 := Aside0.mk A30
  clear A30
  by_cases c4 : t113 = true
  · subst c4
    have H1 : (if 0 ≤ a1 then (if a1 < (a0_2.size : Int) then (some (bt a0_2 a1)) else (none)) else (none)) = some r := by rw [if_pos rfl] at H; exact H
    clear H
    have H := H1
    clear H1
    by_cases c5 : 0 ≤ a1
    · rw [if_pos c5] at H
      have c5b0 : decide (0 ≤ a1) = true := decide_eq_true c5
      clear c5
      by_cases c6 : a1 < (a0_2.size : Int)
      · rw [if_pos c6] at H
        have c6b0 : decide (a1 < (a0_2.size : Int)) = true := decide_eq_true c6
        clear c6
        obtain rfl := Option.some.inj H
        go_enter Try.func52, Try.ntmps52
        go_wp2_with (first | ((with_reducible refine gate_dst (N := 2) rfl ?_); refine box_event ?hg (N := 2) ?hd (cs := #[.int .i64 a0_0, .int .i64 a0_1, .string a0_2]) (t := 77) ?hr ?_; (case hd => rfl); (case hg => rfl); (case hr => first | (go_simp; done) | (go_simp; rfl)); intro gb112 hg w8 hbox hb; have n0_ := Aside0.mk (below_step (by repeat (first | (with_reducible first | exact HB.out | apply below_alloc | apply pw_below_drewN | apply below_drew1) | exact HB.out)) hb); have n1_ := Aside0.mk (hbox); have n2_ := Aside0.mk ((by rw [hg]; exact (below_size (by repeat (first | (with_reducible first | exact HB.out | apply below_alloc | apply pw_below_drewN | apply below_drew1) | exact HB.out))) : w.heap.size ≤ gb112)); have n3_ := Aside0.mk ((by rw [hg]; exact (below_size (by repeat (first | (with_reducible first | exact HB.out | apply below_alloc | apply pw_below_drewN | apply below_drew1) | exact HB.out))) : w.heap.size ≤ gb112)); clear HB; have HB := n0_; have BK112 := n1_; have GW112 := n2_; have GE112 := n3_; clear n0_ n1_ n2_ n3_; clear hb hbox hg; have hcz9_0 : w8.cell? ⟨gb112, 0, none⟩ = some (.int .i64 a0_0) := (blk_cell BK112.out 0).trans rfl; have hcz9_1 : w8.cell? ⟨gb112, 1, none⟩ = some (.int .i64 a0_1) := (blk_cell BK112.out 1).trans rfl; have hcz9_2 : w8.cell? ⟨gb112, 2, none⟩ = some (.string a0_2) := (blk_cell BK112.out 2).trans rfl; have hfz9_0 := blk_frozen BK112.out 0; have hfz9_1 := blk_frozen BK112.out 1; have hfz9_2 := blk_frozen BK112.out 2) | ((with_reducible refine gate_callee (f := 35) rfl ?_); refine goesL_ (some 7) rfl rfl Try.func35 (by kernel_rfl) rfl #[.agg #[.int .i64 a0_0, .int .i64 a0_1, .string a0_2], .int .i64 a1] rfl (by (try simp only [List.map_toArray, List.map_cons, List.map_nil]); first | done | rfl | (simp only [List.length_drop, List.length_take]; rfl)) ?_; (with_reducible refine (grid_Map_On.calls a0_0 a0_1 a0_2 a1 true _ A3.out).mono ?_); rintro e w10 ⟨rfl, hb⟩; refine ⟨_, rfl, ?_⟩; have n0_ := Aside0.mk (blk_below (g := gb112) (o := .cells #[.int .i64 a0_0, .int .i64 a0_1, .string a0_2] 77 (0, 0)) (by (with_reducible repeat (first | refine blk_drewN ?_ _ | refine blk_drew ?_ | refine blk_alloc ?_ _)); exact BK112.out) hb); have n1_ := Aside0.mk (below_step (by repeat (first | (with_reducible first | exact HB.out | apply below_alloc | apply pw_below_drewN | apply below_drew1 | refine below_set ?_ GE112.out) | exact HB.out)) hb); clear BK112; clear HB; have BK112 := n0_; have HB := n1_; clear n0_ n1_; (try clear hb); (try clear hb2); (try clear hk); (try clear hi); have hcz11_0 : w10.cell? ⟨gb112, 0, none⟩ = some (.int .i64 a0_0) := (blk_cell BK112.out 0).trans rfl; have hcz11_1 : w10.cell? ⟨gb112, 1, none⟩ = some (.int .i64 a0_1) := (blk_cell BK112.out 1).trans rfl; have hcz11_2 : w10.cell? ⟨gb112, 2, none⟩ = some (.string a0_2) := (blk_cell BK112.out 2).trans rfl; have hfz11_0 := blk_frozen BK112.out 0; have hfz11_1 := blk_frozen BK112.out 1; have hfz11_2 := blk_frozen BK112.out 2; have p7 : 0 ≤ (a1 : Int) := of_decide_eq_true (by first | (with_reducible assumption) | assumption); have q7 : a1 < (a0_2.size : Int) := of_decide_eq_true (by first | (with_reducible assumption) | assumption); have hx7 := bt_at a0_2 a1; replace p7 := eq_true p7; replace q7 := eq_true q7))
        go_ret
        exact ⟨by first | rfl | (simp [errW_none, errW_some] <;> rfl) | (simp [*, errW_none, errW_some] <;> rfl), by repeat (first | (with_reducible first | exact HB.out | apply below_alloc | apply pw_below_drewN | apply below_drew1 | refine below_set ?_ GE112.out) | exact HB.out)⟩
      · rw [if_neg c6] at H
        exact absurd H (by simp)
    · rw [if_neg c5] at H
      exact absurd H (by simp)
  · replace c4 := Bool.eq_false_iff.mpr c4
    subst c4
    have H1 : (some 1) = some r := by rw [if_neg (show ¬ (false = true) by decide)] at H; exact H
    clear H
    have H := H1
    clear H1
    obtain rfl := Option.some.inj H
    go_enter Try.func52, Try.ntmps52
    go_wp2_with (first | ((with_reducible refine gate_dst (N := 2) rfl ?_); refine box_event ?hg (N := 2) ?hd (cs := #[.int .i64 a0_0, .int .i64 a0_1, .string a0_2]) (t := 77) ?hr ?_; (case hd => rfl); (case hg => rfl); (case hr => first | (go_simp; done) | (go_simp; rfl)); intro gb112 hg w12 hbox hb; have n0_ := Aside0.mk (below_step (by repeat (first | (with_reducible first | exact HB.out | apply below_alloc | apply pw_below_drewN | apply below_drew1) | exact HB.out)) hb); have n1_ := Aside0.mk (hbox); have n2_ := Aside0.mk ((by rw [hg]; exact (below_size (by repeat (first | (with_reducible first | exact HB.out | apply below_alloc | apply pw_below_drewN | apply below_drew1) | exact HB.out))) : w.heap.size ≤ gb112)); have n3_ := Aside0.mk ((by rw [hg]; exact (below_size (by repeat (first | (with_reducible first | exact HB.out | apply below_alloc | apply pw_below_drewN | apply below_drew1) | exact HB.out))) : w.heap.size ≤ gb112)); clear HB; have HB := n0_; have BK112 := n1_; have GW112 := n2_; have GE112 := n3_; clear n0_ n1_ n2_ n3_; clear hb hbox hg; have hcz13_0 : w12.cell? ⟨gb112, 0, none⟩ = some (.int .i64 a0_0) := (blk_cell BK112.out 0).trans rfl; have hcz13_1 : w12.cell? ⟨gb112, 1, none⟩ = some (.int .i64 a0_1) := (blk_cell BK112.out 1).trans rfl; have hcz13_2 : w12.cell? ⟨gb112, 2, none⟩ = some (.string a0_2) := (blk_cell BK112.out 2).trans rfl; have hfz13_0 := blk_frozen BK112.out 0; have hfz13_1 := blk_frozen BK112.out 1; have hfz13_2 := blk_frozen BK112.out 2) | ((with_reducible refine gate_callee (f := 35) rfl ?_); refine goesL_ (some 7) rfl rfl Try.func35 (by kernel_rfl) rfl #[.agg #[.int .i64 a0_0, .int .i64 a0_1, .string a0_2], .int .i64 a1] rfl (by (try simp only [List.map_toArray, List.map_cons, List.map_nil]); first | done | rfl | (simp only [List.length_drop, List.length_take]; rfl)) ?_; (with_reducible refine (grid_Map_On.calls a0_0 a0_1 a0_2 a1 false _ A3.out).mono ?_); rintro e w14 ⟨rfl, hb⟩; refine ⟨_, rfl, ?_⟩; have n0_ := Aside0.mk (blk_below (g := gb112) (o := .cells #[.int .i64 a0_0, .int .i64 a0_1, .string a0_2] 77 (0, 0)) (by (with_reducible repeat (first | refine blk_drewN ?_ _ | refine blk_drew ?_ | refine blk_alloc ?_ _)); exact BK112.out) hb); have n1_ := Aside0.mk (below_step (by repeat (first | (with_reducible first | exact HB.out | apply below_alloc | apply pw_below_drewN | apply below_drew1 | refine below_set ?_ GE112.out) | exact HB.out)) hb); clear BK112; clear HB; have BK112 := n0_; have HB := n1_; clear n0_ n1_; (try clear hb); (try clear hb2); (try clear hk); (try clear hi)))
    go_ret
    exact ⟨by first | rfl | (simp [errW_none, errW_some] <;> rfl) | (simp [*, errW_none, errW_some] <;> rfl), by repeat (first | (with_reducible first | exact HB.out | apply below_alloc | apply pw_below_drewN | apply below_drew1 | refine below_set ?_ GE112.out) | exact HB.out)⟩

/-! ### grid_Map_Walk: function 49 -/
def grid_Map_Walk.f (a0_0 : Int) (a0_1 : Int) (a0_2 : ByteArray) (a1 : Int) : Option (Bool) := (grid_Map_Is.f a0_0 a0_1 a0_2 a1).bind fun t115 => (some (t115 == 0))
set_option maxHeartbeats 8000000 in
set_option maxRecDepth 100000 in
theorem grid_Map_Walk.calls (a0_0 : Int) (a0_1 : Int) (a0_2 : ByteArray) (a1 : Int) (r : Bool) (w : World) (h : grid_Map_Walk.f a0_0 a0_1 a0_2 a1 = some r) :
    Calls Try.prog 49 #[.agg #[.int .i64 a0_0, .int .i64 a0_1, .string a0_2], .int .i64 a1] w fun e w' => e = .returned (.bool r) ∧ Below w.heap.size w w' := by
  have hu77 := Try.underlying77
  have HB := Aside0.mk (Below.refl w.heap.size w)
  have H : ((grid_Map_Is.f a0_0 a0_1 a0_2 a1).bind fun t115 => (some (t115 == 0))) = some r := h
  clear h
  replace H := Option.bind_eq_some_iff.mp H
  obtain ⟨t115, A30, H⟩ := H
  replace H : (some (t115 == 0)) = some r := H
  have A3 := Aside0.mk A30
  clear A30
  obtain rfl := Option.some.inj H
  go_enter Try.func49, Try.ntmps49
  go_wp2_with (first | ((with_reducible refine gate_dst (N := 2) rfl ?_); refine box_event ?hg (N := 2) ?hd (cs := #[.int .i64 a0_0, .int .i64 a0_1, .string a0_2]) (t := 77) ?hr ?_; (case hd => rfl); (case hg => rfl); (case hr => first | (go_simp; done) | (go_simp; rfl)); intro gb114 hg w4 hbox hb; have n0_ := Aside0.mk (below_step (by repeat (first | (with_reducible first | exact HB.out | apply below_alloc | apply pw_below_drewN | apply below_drew1) | exact HB.out)) hb); have n1_ := Aside0.mk (hbox); have n2_ := Aside0.mk ((by rw [hg]; exact (below_size (by repeat (first | (with_reducible first | exact HB.out | apply below_alloc | apply pw_below_drewN | apply below_drew1) | exact HB.out))) : w.heap.size ≤ gb114)); have n3_ := Aside0.mk ((by rw [hg]; exact (below_size (by repeat (first | (with_reducible first | exact HB.out | apply below_alloc | apply pw_below_drewN | apply below_drew1) | exact HB.out))) : w.heap.size ≤ gb114)); clear HB; have HB := n0_; have BK114 := n1_; have GW114 := n2_; have GE114 := n3_; clear n0_ n1_ n2_ n3_; clear hb hbox hg; have hcz5_0 : w4.cell? ⟨gb114, 0, none⟩ = some (.int .i64 a0_0) := (blk_cell BK114.out 0).trans rfl; have hcz5_1 : w4.cell? ⟨gb114, 1, none⟩ = some (.int .i64 a0_1) := (blk_cell BK114.out 1).trans rfl; have hcz5_2 : w4.cell? ⟨gb114, 2, none⟩ = some (.string a0_2) := (blk_cell BK114.out 2).trans rfl; have hfz5_0 := blk_frozen BK114.out 0; have hfz5_1 := blk_frozen BK114.out 1; have hfz5_2 := blk_frozen BK114.out 2) | ((with_reducible refine gate_callee (f := 52) rfl ?_); refine goesL_ (some 7) rfl rfl Try.func52 (by kernel_rfl) rfl #[.agg #[.int .i64 a0_0, .int .i64 a0_1, .string a0_2], .int .i64 a1] rfl (by (try simp only [List.map_toArray, List.map_cons, List.map_nil]); first | done | rfl | (simp only [List.length_drop, List.length_take]; rfl)) ?_; (with_reducible refine (grid_Map_Is.calls a0_0 a0_1 a0_2 a1 t115 _ A3.out).mono ?_); rintro e w6 ⟨rfl, hb⟩; refine ⟨_, rfl, ?_⟩; have n0_ := Aside0.mk (blk_below (g := gb114) (o := .cells #[.int .i64 a0_0, .int .i64 a0_1, .string a0_2] 77 (0, 0)) (by (with_reducible repeat (first | refine blk_drewN ?_ _ | refine blk_drew ?_ | refine blk_alloc ?_ _)); exact BK114.out) hb); have n1_ := Aside0.mk (below_step (by repeat (first | (with_reducible first | exact HB.out | apply below_alloc | apply pw_below_drewN | apply below_drew1 | refine below_set ?_ GE114.out) | exact HB.out)) hb); clear BK114; clear HB; have BK114 := n0_; have HB := n1_; clear n0_ n1_; (try clear hb); (try clear hb2); (try clear hk); (try clear hi)))
  go_ret
  exact ⟨by first | rfl | (simp [errW_none, errW_some] <;> rfl) | (simp [*, errW_none, errW_some] <;> rfl), by repeat (first | (with_reducible first | exact HB.out | apply below_alloc | apply pw_below_drewN | apply below_drew1 | refine below_set ?_ GE114.out) | exact HB.out)⟩

end Go.Proofs.Ytfdbibddhneklab.PGridSteps
