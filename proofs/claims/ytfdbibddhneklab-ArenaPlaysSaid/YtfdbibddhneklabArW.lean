import Derived.Test.YtfdbibddhneklabArD
namespace Go.Proofs.Ytfdbibddhneklab.Arena
open Go.RowKit Go.Proofs.YtfdbibddhneklabW.PrintWords
set_option linter.unusedVariables false
set_option linter.unusedSimpArgs false
set_option maxRecDepth 100000
set_option maxHeartbeats 1000000
theorem wpList_load_g {P : Program} {ops : Array Oper} {rest : List Oper} {o : Oper} {a : Act} {w : World} {Q : Exit → Act → World → Prop} (hw : Region.wanted o (yielded ops a.tmps) = true) (ty : TypeId) (x : Operand) (ho : o.op = .load ty x)
    (g : Nat) (hx : a.eval x = .pointer (some ⟨g, 0, none⟩)) (t : TypeId) (cs : Array Value) (fr : Nat × Nat) (d : TypeDesc) (hg : w.heap[g]? = some (.cells cs t fr))
    (hu : P.underlying ty = some d) (hd : (match d with | .struct _ | .array _ _ => true | _ => false) = true) (hi : (P.info? ty).map (·.size) = some cs.size)
    (h : wpList P ops Q rest (a.put o.dst (.agg cs)) w) : wpList P ops Q (o :: rest) a w := by
  unfold wpList
  rw [if_pos hw]
  exact .inl (wp_load_row ty x ho g hx t cs fr d hg hu hd hi h)
theorem addL_len (L : List Sl) (x : Int) : (addL L x).length = L.length := by
  unfold addL
  split <;> simp
theorem dropL_len (L : List Sl) (k : Nat) : (dropL L k).length = L.length := by
  unfold dropL
  split <;> simp
theorem rd_R {W : World} {b e : Nat} {ok : Nat → Prop} {v : Value} {xs : List Int} (h : Kd.R (Kd.int .u16) e W b ok v xs) : ∃ A c, v = .slice A xs.length c ∧ xs.length ≤ c ∧ Kd.C (Kd.int .u16) W A xs.length xs := by
  rcases (Kd.own_of_R h).2 with ⟨rfl, hn⟩ | ⟨g', cap, cur, rfl, _, _, hc, _⟩
  · obtain rfl := List.length_eq_zero_iff.1 hn
    exact ⟨none, 0, rfl, Nat.le_refl _, Kd.C_nil _ _⟩
  · exact ⟨_, cap, rfl, hc, (Kd.R_reads' h).2.2⟩

theorem wakes_any (w : World) : Calls Try.prog 9 #[] w fun e w' => e = .returned (.bool true) ∧ Below w.heap.size w w' := by
  obtain ⟨L1, hL1⟩ : ∃ L, L = addL Z0 7 := ⟨_, rfl⟩
  obtain ⟨L2, hL2⟩ : ∃ L, L = addL L1 8 := ⟨_, rfl⟩
  obtain ⟨B1, hB1⟩ : ∃ L, L = dropL L2 0 := ⟨_, rfl⟩
  obtain ⟨B2, hB2⟩ : ∃ L, L = addL B1 9 := ⟨_, rfl⟩
  have n1 : L1.length = 128 := by rw [hL1, addL_len, Z0_len]
  have n2 : L2.length = 128 := by rw [hL2, addL_len, n1]
  have n3 : B1.length = 128 := by rw [hB1, dropL_len, n2]
  have n4 : B2.length = 128 := by rw [hB2, addL_len, n3]
  have A1 := Lib.hid (fun W => (show Calls Try.prog 11 #[.agg (acs Z0), .int .i64 7] W fun e w' => e = .returned (.tuple #[.agg (acs L1), .int .u16 0, .bool true]) ∧ Below W.heap.size W w' by
    have h := add_any Z0 7 Z0_len W
    rw [← hL1, show addId Z0 = 0 by decide +kernel, show (firstF Z0).isSome = true by decide +kernel] at h
    exact h))
  have A2 := Lib.hid (fun W => (show Calls Try.prog 11 #[.agg (acs L1), .int .i64 8] W fun e w' => e = .returned (.tuple #[.agg (acs L2), .int .u16 1, .bool true]) ∧ Below W.heap.size W w' by
    have h := add_any L1 8 n1 W
    rw [← hL2, hL1, show addId (addL Z0 7) = 1 by decide +kernel, show (firstF (addL Z0 7)).isSome = true by decide +kernel, ← hL1] at h
    exact h))
  have A3 := Lib.hid (fun W => (show Calls Try.prog 10 #[.agg (acs L2), .int .u16 0] W fun e w' => e = .returned (.agg (acs B1)) ∧ Below W.heap.size W w' by
    have h := drop_any L2 0 n2 (by omega) W
    rw [← hB1] at h
    exact h))
  have A4 := Lib.hid (fun W => (show Calls Try.prog 11 #[.agg (acs B1), .int .i64 9] W fun e w' => e = .returned (.tuple #[.agg (acs B2), .int .u16 128, .bool true]) ∧ Below W.heap.size W w' by
    have h := add_any B1 9 n3 W
    rw [← hB2, hB1, hL2, hL1, show addId (dropL (addL (addL Z0 7) 8) 0) = 128 by decide +kernel, show (firstF (dropL (addL (addL Z0 7) 8) 0)).isSome = true by decide +kernel, ← hL1, ← hL2, ← hB1] at h
    exact h))
  have A5 := Lib.hid (fun W => (show Calls Try.prog 13 #[.agg (acs B2), .int .u16 128] W fun e w' => e = .returned (.tuple #[.int .i64 9, .bool true]) ∧ Below W.heap.size W w' by
    have h := get_any B2 128 n4 (by omega) W
    rw [hB2, hB1, hL2, hL1, show has (addL (dropL (addL (addL Z0 7) 8) 0) 9) 128 = true by decide +kernel, if_pos rfl, show sX (addL (dropL (addL (addL Z0 7) 8) 0) 9) (128 % 128) = 9 by decide +kernel, ← hL1, ← hL2, ← hB1, ← hB2] at h
    exact h))
  have A6 := Lib.hid (fun W => (show Calls Try.prog 13 #[.agg (acs B2), .int .u16 0] W fun e w' => e = .returned (.tuple #[.int .i64 0, .bool false]) ∧ Below W.heap.size W w' by
    have h := get_any B2 0 n4 (by omega) W
    rw [hB2, hB1, hL2, hL1, show has (addL (dropL (addL (addL Z0 7) 8) 0) 9) 0 = false by decide +kernel, if_neg (by decide), ← hL1, ← hL2, ← hB1, ← hB2] at h
    exact h))
  have A7 := Lib.hid (fun W => (show Calls Try.prog 13 #[.agg (acs L2), .int .u16 0] W fun e w' => e = .returned (.tuple #[.int .i64 7, .bool true]) ∧ Below W.heap.size W w' by
    have h := get_any L2 0 n2 (by omega) W
    rw [hL2, hL1, show has (addL (addL Z0 7) 8) 0 = true by decide +kernel, if_pos rfl, show sX (addL (addL Z0 7) 8) (0 % 128) = 7 by decide +kernel, ← hL1, ← hL2] at h
    exact h))
  have A8 := Lib.hid (fun W => (show Calls Try.prog 12 #[.agg (acs B2)] W fun e w' => ∃ A c, e = .returned (.slice A 2 c) ∧ Below W.heap.size W w' by
    refine (ids_any B2 n4 W).mono ?_
    rintro e w' ⟨v, rfl, hR, hb⟩
    obtain ⟨A, c, rfl, -, -⟩ := rd_R hR
    exact ⟨A, c, by rw [hB2, hB1, hL2, hL1, show (idsL (addL (dropL (addL (addL Z0 7) 8) 0) 9) 128).length = 2 by decide +kernel], hb⟩))
  have A9 := Lib.hid (fun W => (show Calls Try.prog 39 #[.agg (acs B2), .int .i64 0] W fun e w' => e = .returned (.int .i64 1) ∧ Below W.heap.size W w' by
    have h := gen_any B2 0 n4 (by rw [hB2, hB1, hL2, hL1]; decide +kernel) W
    rw [hB2, hB1, hL2, hL1, show genOf (addL (dropL (addL (addL Z0 7) 8) 0) 9) 0 = 1 by decide +kernel, ← hL1, ← hL2, ← hB1, ← hB2] at h
    exact h))
  have A10 := Lib.hid (fun W => (show Calls Try.prog 40 #[.agg (acs B2), .int .i64 5] W fun e w' => e = .returned (.bool true) ∧ Below W.heap.size W w' by
    have h := free_any B2 5 n4 W
    rw [hB2, hB1, hL2, hL1, show freeOf (addL (dropL (addL (addL Z0 7) 8) 0) 9) 5 = true by decide +kernel, ← hL1, ← hL2, ← hB1, ← hB2] at h
    exact h))
  have A11 := Lib.hid (fun W => (show Calls Try.prog 40 #[.agg (acs B2), .int .i64 128] W fun e w' => e = .returned (.bool false) ∧ Below W.heap.size W w' by
    have h := free_any B2 128 n4 W
    rw [hB2, hB1, hL2, hL1, show freeOf (addL (dropL (addL (addL Z0 7) 8) 0) 9) 128 = false by decide +kernel, ← hL1, ← hL2, ← hB1, ← hB2] at h
    exact h))
  clear hL1 hL2 hB1 hB2
  have I0 := Lib.hid (info29 Z0 Z0_len)
  have I1 := Lib.hid (info29 L1 n1)
  have I2 := Lib.hid (info29 L2 n2)
  have I3 := Lib.hid (info29 B1 n3)
  have I4 := Lib.hid (info29 B2 n4)
  have hz := zero29' w
  have P := Lib.hid (lies_new w Z0 w.heap.size rfl)
  have HB := Lib.hid ((Below.refl w.heap.size w).alloc (Nat.le_refl _) (.cells (acs Z0) 29))
  have J1 := Lib.hid (show (acs Z0).size = (acs L1).size by rw [acs_size, acs_size, n1, Z0_len])
  have J2 := Lib.hid (show (acs L1).size = (acs L2).size by rw [acs_size, acs_size, n1, n2])
  have J3 := Lib.hid (show (acs Z0).size = (acs B1).size by rw [acs_size, acs_size, n3, Z0_len])
  have J4 := Lib.hid (show (acs B1).size = (acs B2).size by rw [acs_size, acs_size, n3, n4])
  clear n1 n2 n3 n4
  go_enter Try.func9, Try.ntmps9
  go_wp2_with (refine wpList_load_row rfl 29 (.tmp 1) rfl _ rfl _ _ _ _ P.out Try.underlying29 rfl I0.out ?_)
  refine (A1.out _).mono ?_; rintro e w1 ⟨rfl, b1⟩
  have P := Lib.hid (P.out.next b1)
  have HB := Lib.hid (bnext HB.out (Nat.le_refl _) b1)
  have Q := Lib.hid (P.out.same L1)
  have HC := Lib.hid (below_setRow HB.out (Nat.le_refl w.heap.size) (acs L1))
  clear b1 hz
  go_wp2_with (first | (refine wpList_store_row rfl 29 (.tmp 1) (.tmp 18) rfl _ _ rfl rfl _ _ P.out I1.out J1.out (acs_one _) ?_) | (refine wpList_load_row rfl 29 (.tmp 1) rfl _ rfl _ _ _ _ Q.out Try.underlying29 rfl I1.out ?_))
  refine (A2.out _).mono ?_; rintro e w2 ⟨rfl, b2⟩
  have P := Lib.hid (Q.out.next b2)
  have HB := Lib.hid (bnext HC.out (Nat.le_refl _) b2)
  have Q := Lib.hid (P.out.same L2)
  have HC := Lib.hid (below_setRow HB.out (Nat.le_refl w.heap.size) (acs L2))
  clear b2
  go_wp2_with (first | (refine wpList_store_row rfl 29 (.tmp 1) (.tmp 24) rfl _ _ rfl rfl _ _ P.out I2.out J2.out (acs_one _) ?_) | (refine wpList_load_row rfl 29 (.tmp 1) rfl _ rfl _ _ _ _ Q.out Try.underlying29 rfl I2.out ?_))
  refine (A3.out _).mono ?_; rintro e w3 ⟨rfl, b3⟩
  have P := Lib.hid (Q.out.next b3)
  have HB := Lib.hid (bnext HC.out (Nat.le_refl _) b3)
  have hz := zero29' w3
  have hsz := HB.out.size
  have hlt := P.out.lt
  have P2 := Lib.hid (lies_past w3 (.cells (acs Z0) 29) L2 w.heap.size P.out)
  have Q2 := Lib.hid (lies_new w3 Z0 w3.heap.size rfl)
  have HB2 := Lib.hid (HB.out.alloc HB.out.size (.cells (acs Z0) 29))
  have P3 := Lib.hid (P2.out.row (by omega : w.heap.size ≠ w3.heap.size) (acs B1))
  have Q3 := Lib.hid (Q2.out.same B1)
  have HB3 := Lib.hid (below_setRow HB2.out (show w.heap.size ≤ w3.heap.size by omega) (acs B1))
  clear b3
  go_wp2_with (first | (refine wpList_store_row rfl 29 (.tmp 6) (.tmp 28) rfl _ _ rfl rfl _ _ Q2.out I3.out J3.out (acs_one _) ?_) | (refine wpList_load_row rfl 29 (.tmp 6) rfl _ rfl _ _ _ _ Q3.out Try.underlying29 rfl I3.out ?_))
  refine (A4.out _).mono ?_; rintro e w4 ⟨rfl, b4⟩
  have P := Lib.hid (P3.out.next b4)
  have Q := Lib.hid (Q3.out.next b4)
  have HB := Lib.hid (bnext HB3.out (Nat.le_refl _) b4)
  have P2 := Lib.hid (P.out.row (by omega : w.heap.size ≠ w3.heap.size) (acs B2))
  have Q2 := Lib.hid (Q.out.same B2)
  have HB2 := Lib.hid (below_setRow HB.out (show w.heap.size ≤ w3.heap.size by omega) (acs B2))
  clear b4 hz P3 Q3 HB3
  go_wp2_with (first | (refine wpList_store_row rfl 29 (.tmp 6) (.tmp 32) rfl _ _ rfl rfl _ _ Q.out I4.out J4.out (acs_one _) ?_) | (refine wpList_load_row rfl 29 (.tmp 6) rfl _ rfl _ _ _ _ Q2.out Try.underlying29 rfl I4.out ?_))
  refine (A5.out _).mono ?_; rintro e w5 ⟨rfl, b5⟩
  have P := Lib.hid (P2.out.next b5)
  have Q := Lib.hid (Q2.out.next b5)
  have HB := Lib.hid (bnext HB2.out (Nat.le_refl _) b5)
  clear b5
  go_wp2_with (refine wpList_load_row rfl 29 (.tmp 6) rfl _ rfl _ _ _ _ Q.out Try.underlying29 rfl I4.out ?_)
  refine (A6.out _).mono ?_; rintro e w6 ⟨rfl, b6⟩
  have P := Lib.hid (P.out.next b6)
  have Q := Lib.hid (Q.out.next b6)
  have HB := Lib.hid (bnext HB.out (Nat.le_refl _) b6)
  clear b6
  go_wp2_with (refine wpList_load_row rfl 29 (.tmp 1) rfl _ rfl _ _ _ _ P.out Try.underlying29 rfl I2.out ?_)
  refine (A7.out _).mono ?_; rintro e w7 ⟨rfl, b7⟩
  have Q := Lib.hid (Q.out.next b7)
  have HB := Lib.hid (bnext HB.out (Nat.le_refl _) b7)
  clear b7
  go_wp2_with (refine wpList_load_g (by rfl) 29 (.tmp 6) rfl _ rfl _ _ _ _ Q.out Try.underlying29 rfl I4.out ?_)
  refine (A8.out _).mono ?_; rintro e w8 ⟨A, c, rfl, b8⟩
  have Q := Lib.hid (Q.out.next b8)
  have HB := Lib.hid (bnext HB.out (Nat.le_refl _) b8)
  clear b8
  go_wp2_with (refine wpList_load_g (by rfl) 29 (.tmp 6) rfl _ rfl _ _ _ _ Q.out Try.underlying29 rfl I4.out ?_)
  refine (A9.out _).mono ?_; rintro e w9 ⟨rfl, b9⟩
  have Q := Lib.hid (Q.out.next b9)
  have HB := Lib.hid (bnext HB.out (Nat.le_refl _) b9)
  clear b9
  go_wp2_with (refine wpList_load_g (by rfl) 29 (.tmp 6) rfl _ rfl _ _ _ _ Q.out Try.underlying29 rfl I4.out ?_)
  refine (A10.out _).mono ?_; rintro e w10 ⟨rfl, b10⟩
  have Q := Lib.hid (Q.out.next b10)
  have HB := Lib.hid (bnext HB.out (Nat.le_refl _) b10)
  clear b10
  go_wp2_with (refine wpList_load_g (by rfl) 29 (.tmp 6) rfl _ rfl _ _ _ _ Q.out Try.underlying29 rfl I4.out ?_)
  refine (A11.out _).mono ?_; rintro e w11 ⟨rfl, b11⟩
  have HB := Lib.hid (bnext HB.out (Nat.le_refl _) b11)
  clear b11
  go_wp2_with fail
  go_ret
  exact ⟨rfl, HB.out⟩
end Go.Proofs.Ytfdbibddhneklab.Arena
