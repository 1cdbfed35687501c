import Derived.Test.YtfdbibddhneklabArT
import Derived.Test.YtfdbibddhneklabArP
import Derived.Lib.QuietBelow
import Derived.BigQuiet
namespace Go.Proofs.Ytfdbibddhneklab.Arena
open Go.RowKit Go.Sort Go.Proofs.YtfdbibddhneklabW.PrintWords
set_option linter.unusedVariables false
set_option linter.unusedSimpArgs false
set_option maxRecDepth 100000
set_option maxHeartbeats 2000000
theorem quiet_load_row {P : Program} {ops : Array Oper} {C : World → Prop} {rest : List Oper} {o : Oper} {a : Act} {Q : Act → Prop} (hw : Region.wanted o (yielded ops a.tmps) = true) (ty : TypeId) (x : Operand) (ho : o.op = .load ty x)
    (g : Nat) (hx : a.eval x = .pointer (some ⟨g, 0, none⟩)) (t : TypeId) (cs : Array Value) (fr : Nat × Nat) (d : TypeDesc) (hg : ∀ w, C w → w.heap[g]? = some (.cells cs t fr))
    (hu : P.underlying ty = some d) (hd : (match d with | .struct _ | .array _ _ => true | _ => false) = true) (hi : (P.info? ty).map (·.size) = some cs.size)
    (h : wpQuiet P ops C Q rest (a.put o.dst (.agg cs))) : wpQuiet P ops C Q (o :: rest) a := by
  unfold wpQuiet
  rw [if_pos hw]
  refine ⟨.agg cs, fun w hC => ?_, h⟩
  unfold Oper.quietAt execOp
  simp only [ho, hx, Instr.loadAt, Instr.sureAddr, Sem.run_bind, Sem.run_pure, Result.andThen_ok, run_loadVar_row w g t ty cs fr d (hg w hC) hu hd hi]
  exact ⟨rfl, rfl⟩
theorem ids_pre (L : List Sl) : ∀ (d k : Nat), k + d = 128 → ∃ r, idsL L 128 = idsL L k ++ r := by
  intro d
  induction d with
  | zero => intro k hk; obtain rfl : k = 128 := by omega
            exact ⟨[], by simp⟩
  | succ d ih =>
    intro k hk
    obtain ⟨r, hr⟩ := ih (k + 1) (by omega)
    cases hu : sU L k
    · rw [idsL_no L k hu] at hr; exact ⟨r, hr⟩
    · rw [idsL_yes L k hu] at hr; exact ⟨_, by rw [hr, List.append_assoc]⟩
theorem cell_next {W W' : World} {p : Addr} {v : Value} (hb : Below W.heap.size W W') (h : W.cell? p = some v) : W'.cell? p = some v := by rw [hb.cell (block_lt_of_cell h)]; exact h
theorem lies_reg {W : World} {g : Nat} {L : List Sl} (h : Lies W g L) (w' : World) (hc : ∃ p : Regrown, w' = grow (redrawn W p.d) p.os) : w'.heap[g]? = some (.cells (acs L) 29 (0, 0)) := by
  obtain ⟨p, rfl⟩ := hc
  exact h.next (below_regrown W p.d p.os)

theorem same_any (L : List Sl) (hL : L.length = 128) (hg : ∀ j, j < 128 → 0 ≤ sG L j ∧ sG L j ≤ 300) (w : World) : Calls Try.prog 31 #[.agg (acs L), .agg (rcs L)] w fun e w' => e = .returned (.bool true) ∧ Below w.heap.size w w' := by
  have HI := Lib.hid (info29 L hL)
  have HL := Lib.hid hL
  have HG := Lib.hid hg
  have P0 := Lib.hid (lies_past _ (.cells (rcs L) 67) L w.heap.size (lies_new w L w.heap.size rfl))
  have P1 := Lib.hid (liesR_new (w.alloc (.cells (acs L) 29)) L (w.heap.size + 1) (by simp))
  have HB := Lib.hid (((Below.refl w.heap.size w).alloc (Nat.le_refl _) (.cells (acs L) 29)).alloc (by simp) (.cells (rcs L) 67))
  have HS := Lib.hid (fun W => ids_any L hL W)
  have HN := Lib.hid (fun i W => gen_any L i hL (fun j hj => by have := hg j hj; omega) W)
  have HF := Lib.hid (fun i W => free_any L i hL W)
  clear hL hg
  go_enter Try.func31, Try.ntmps31
  go_wp2_with (refine wpList_load_row rfl 29 (.tmp 2) rfl _ rfl _ _ _ _ P0.out Try.underlying29 rfl HI.out ?_)
  refine (HS.out _).mono ?_; rintro e w6 ⟨v6, rfl, R6, b6⟩
  obtain ⟨B6, c6, rfl, q6, C6⟩ := rd_R R6
  have P0 := Lib.hid (P0.out.next b6)
  have P1 := Lib.hid (P1.out.next b6)
  have HB := Lib.hid (bnext HB.out (Nat.le_refl _) b6)
  have hle := idsL_len L 128
  obtain ⟨Y, hYe⟩ : ∃ Y, Y = idsL L 128 := ⟨_, rfl⟩
  rw [← hYe] at C6 hle q6 ⊢
  have C6 := Lib.hid C6
  have HY := Lib.hid hYe
  clear hYe b6 R6
  go_wp2_with fail
  go_loopw [6, 7] (fun v6 v7 wr => ∃ k : Nat, v7 = .int .i64 k ∧ k ≤ 128 ∧ v6 = .int .i64 ((idsL L k).length : Int) ∧ Below w6.heap.size w6 wr) (fun _ v7 _ => 128 - (intOf v7).toNat)
  case atStart => exact ⟨0, rfl, by omega, rfl, Below.refl _ _⟩
  case round =>
    obtain ⟨k, rfl, hk, rfl, kB⟩ := hrel
    have KB := Lib.hid kB
    have T0 := Lib.hid (P0.out.next kB)
    have T1 := Lib.hid (P1.out.next kB)
    have TB := Lib.hid (bnext HB.out (Nat.le_refl _) kB)
    clear kB
    obtain ⟨n, hn⟩ : ∃ n, n = (idsL L k).length := ⟨_, rfl⟩
    have hnk := idsL_len L k
    rw [← hn] at hnk ⊢
    by_cases h : k < 128
    · have k0 : (0 : Int) ≤ (k : Int) := by omega
      have k1 : (k : Int) < 128 := by omega
      obtain ⟨y0, y1⟩ := HG.out k h
      have c2 := T1.out.cell (256 + k)
      rw [rcs_u L HL.out k h] at c2
      have c1 := T1.out.cell (128 + k)
      rw [rcs_x L HL.out k h] at c1
      have c0 := T1.out.cell k
      rw [rcs_g L HL.out k h] at c0
      have gk : genOf L k = sG L k := by unfold genOf; rw [if_pos ⟨by omega, by omega⟩, Int.toNat_natCast]
      have fk : freeOf L k = !sU L k := by unfold freeOf; rw [decide_eq_true ⟨by omega, by omega⟩, Int.toNat_natCast]; rfl
      have HNk := Lib.hid (fun W => by have := HN.out k W; rw [gk] at this; exact this)
      have HFk := Lib.hid (fun W => by have := HF.out k W; rw [fk] at this; exact this)
      have e0 := fun D O => cell_regrown c0 D O
      have e2 := fun D O => cell_regrown c2 D O
      clear gk fk c1
      go_wp2_with fail
      cases hu : sU L k
      · rw [hu] at HFk c2 e2
        refine wp_region_quiet_below (by kernel_rfl) (by kernel_rfl) ?_
        repeat (first | (refine quiet_load_row (by rfl) 29 (.tmp 2) rfl _ rfl _ _ _ _ (lies_reg T0.out) Try.underlying29 rfl HI.out ?_; simp only [Act.put, List.setIfInBounds_toArray, List.set_cons_zero, List.set_cons_succ]) | go_big_quiet_step (first | (go_at_call 39; exact Calls.regrown_of (HNk.out _)) | (go_at_call 40; exact Calls.regrown_of (HFk.out _))))
        refine wpQuiet_nil ?_
        intro _ hw'
        obtain ⟨⟨dq, osq⟩, hw''⟩ := hw'
        subst hw''
        have U0 := Lib.hid (T0.out.next (below_regrown wr dq osq))
        have U1 := Lib.hid (T1.out.next (below_regrown wr dq osq))
        have UB := Lib.hid (bnext TB.out (Nat.le_refl _) (below_regrown wr dq osq))
        have KB := Lib.hid (bnext KB.out (Nat.le_refl _) (below_regrown wr dq osq))
        generalize grow (redrawn wr dq) osq = wq at *
        clear T0 T1 TB c0 c2 e0 e2
        have c2 := U1.out.cell (256 + k)
        rw [rcs_u L HL.out k h, hu] at c2
        have hno := Lib.hid (idsL_no L k hu)
        have Hn := Lib.hid hn
        clear hn
        go_wp2_with fail
        exact ⟨⟨k + 1, by go_num, by omega, by rw [hno.out, ← Hn.out], KB.out⟩, by simp [intOf]; omega⟩
      · rw [hu] at HFk c2 e2
        refine wp_region_quiet_below (by kernel_rfl) (by kernel_rfl) ?_
        repeat (first | (refine quiet_load_row (by rfl) 29 (.tmp 2) rfl _ rfl _ _ _ _ (lies_reg T0.out) Try.underlying29 rfl HI.out ?_; simp only [Act.put, List.setIfInBounds_toArray, List.set_cons_zero, List.set_cons_succ]) | go_big_quiet_step (first | (go_at_call 39; exact Calls.regrown_of (HNk.out _)) | (go_at_call 40; exact Calls.regrown_of (HFk.out _))))
        refine wpQuiet_nil ?_
        intro _ hw'
        obtain ⟨⟨dq, osq⟩, hw''⟩ := hw'
        subst hw''
        have U0 := Lib.hid (T0.out.next (below_regrown wr dq osq))
        have U1 := Lib.hid (T1.out.next (below_regrown wr dq osq))
        have UB := Lib.hid (bnext TB.out (Nat.le_refl _) (below_regrown wr dq osq))
        have KB := Lib.hid (bnext KB.out (Nat.le_refl _) (below_regrown wr dq osq))
        generalize grow (redrawn wr dq) osq = wq at *
        clear T0 T1 TB c0 c2 e0 e2
        have c2 := U1.out.cell (256 + k)
        rw [rcs_u L HL.out k h, hu] at c2
        have c1 := U1.out.cell (128 + k)
        rw [rcs_x L HL.out k h] at c1
        have c0 := U1.out.cell k
        rw [rcs_g L HL.out k h] at c0
        obtain ⟨kk, hkk⟩ : ∃ kk : Nat, kk = k + 128 * (sG L k).toNat := ⟨_, rfl⟩
        have hid : idOf L k = (kk : Int) := by rw [idOf_eq h (HG.out k h) (Nat.le_refl _)]; omega
        have hlt : kk < 65536 := by omega
        have hmod : kk % 128 = k := by omega
        have hdiv : kk / 128 = (sG L k).toNat := by omega
        have hhas : has L kk = true := (has_iff HG.out (Nat.le_refl _) kk).2 (by rw [hmod, hdiv]; exact ⟨hu, by omega⟩)
        have HGt := Lib.hid (fun W => by have := get_any L kk HL.out hlt W; rw [hhas, if_pos rfl, hmod] at this; exact this)
        have hyes := Lib.hid (idsL_yes L k hu)
        have hYn : n < Y.length ∧ Y[n]? = some (kk : Int) := by
          obtain ⟨r, hr⟩ := ids_pre L (128 - (k + 1)) (k + 1) (by omega)
          rw [HY.out, hr, idsL_yes L k hu, hid, hn]
          refine ⟨by simp, ?_⟩
          rw [List.append_assoc, List.getElem?_append_right (Nat.le_refl _), Nat.sub_self]
          rfl
        have hcell : ∃ ad, B6 = some ad ∧ wq.cell? (ad.add n) = some (.int .u16 (kk : Int)) := by
          obtain ⟨_, _, hrd⟩ := Kd.C_below C6.out KB.out
          obtain ⟨ad, had, hc⟩ := hrd (by omega)
          refine ⟨ad, had, ?_⟩
          obtain ⟨cs, hk1, hk2, hk3⟩ := hc n _ hYn.2
          have hcs : cs = [.int .u16 (kk : Int)] := hk2
          have := hk3 0 _ (by rw [hcs]; rfl)
          rw [show n * (Kd.int .u16).sz + 0 = n by show n * 1 + 0 = n; omega] at this
          exact this
        obtain ⟨ad6, rfl, hcell⟩ := hcell
        have hq : IntKind.u16.wrap ((k : Int) + 128 * sG L k) = (kk : Int) := by simp only [IntKind.wrap, IntKind.bits, IntKind.signed]; simp; omega
        have hn0 : (0 : Int) ≤ (n : Int) := by omega
        have hn1 : (n : Int) < (Y.length : Int) := by omega
        have hn2 : ¬ (Y.length : Int) ≤ (n : Int) := by omega
        have Hn := Lib.hid hn
        clear hn hid hmod hdiv hhas hYn hkk
        go_wp2_with (refine wpList_load_row rfl 29 (.tmp 2) rfl _ rfl _ _ _ _ U0.out Try.underlying29 rfl HI.out ?_)
        refine (HGt.out _).mono ?_; rintro e w8 ⟨rfl, b8⟩
        have hcell := cell_next b8 hcell
        have c1 := cell_next b8 c1
        have KB := Lib.hid (bnext KB.out (Nat.le_refl _) b8)
        clear b8 c0 c2
        go_wp2_with fail
        exact ⟨⟨k + 1, by go_num, by omega, by rw [hyes.out, List.length_append, ← Hn.out]; rfl, KB.out⟩, by simp [intOf]; omega⟩
    · obtain rfl : k = 128 := by omega
      have hnY : n = Y.length := by rw [hn, HY.out]
      have Z1 := Lib.hid (fun W => by have := HN.out 128 W; rw [show genOf L 128 = -1 by unfold genOf; simp] at this; exact this)
      have Z2 := Lib.hid (fun W => by have := HN.out (-1) W; rw [show genOf L (-1) = -1 by unfold genOf; simp] at this; exact this)
      have Z3 := Lib.hid (fun W => by have := HF.out (-1) W; rw [show freeOf L (-1) = false by unfold freeOf; simp] at this; exact this)
      rw [hnY]
      clear hn hnY hnk HN HF
      go_wp2_with (refine wpList_load_g (by rfl) 29 (.tmp 2) rfl _ rfl _ _ _ _ T0.out Try.underlying29 rfl HI.out ?_)
      refine (Z1.out _).mono ?_; rintro e w8 ⟨rfl, b8⟩
      have T0 := Lib.hid (T0.out.next b8)
      have TB := Lib.hid (bnext TB.out (Nat.le_refl _) b8)
      clear b8
      go_wp2_with (refine wpList_load_g (by rfl) 29 (.tmp 2) rfl _ rfl _ _ _ _ T0.out Try.underlying29 rfl HI.out ?_)
      refine (Z2.out _).mono ?_; rintro e w9 ⟨rfl, b9⟩
      have T0 := Lib.hid (T0.out.next b9)
      have TB := Lib.hid (bnext TB.out (Nat.le_refl _) b9)
      clear b9
      go_wp2_with (refine wpList_load_g (by rfl) 29 (.tmp 2) rfl _ rfl _ _ _ _ T0.out Try.underlying29 rfl HI.out ?_)
      refine (Z3.out _).mono ?_; rintro e w10 ⟨rfl, b10⟩
      have TB := Lib.hid (bnext TB.out (Nat.le_refl _) b10)
      clear b10
      go_wp2_with fail
      go_ret
      exact ⟨rfl, TB.out⟩

theorem scs_set0 (L : List Sl) : ∀ (k : Nat) (x : Int), k < L.length → (scs L).set (k * 3) (.int .i64 x) = scs (L.set k (x, sG L k, sU L k)) := by
  induction L with
  | nil => intro k _ hk; simp at hk
  | cons s L ih =>
    intro k x hk
    cases k with
    | zero => rfl
    | succ k =>
      rw [List.set_cons_succ, scs_cons, scs_cons, show sG (s :: L) (k + 1) = sG L k from rfl, show sU (s :: L) (k + 1) = sU L k from rfl, ← ih k x (by simpa using hk)]
      rw [show (k + 1) * 3 = k * 3 + 1 + 1 + 1 by omega]
      simp only [List.set_cons_succ]
theorem Lies.setx {W : World} {g : Nat} {L : List Sl} (h : Lies W g L) (k : Nat) (x : Int) (hk : k < L.length) : Lies (W.setCell ⟨g, k * 3, none⟩ (.int .i64 x)) g (L.set k (x, sG L k, sU L k)) := by
  unfold Lies
  have : (acs L).setIfInBounds (k * 3) (.int .i64 x) = acs (L.set k (x, sG L k, sU L k)) := by
    simp only [acs, List.setIfInBounds_toArray]
    rw [scs_set0 L k x hk]
  rw [← this]
  exact heap_setCell_same _ _ _ _ _ _ h
theorem set_any (L : List Sl) (k : Nat) (x : Int) (hL : L.length = 128) (hk : k < 65536) (w : World) : Calls Try.prog 27 #[.agg (acs L), .int .u16 k, .int .i64 x] w fun e w' => e = .returned (.agg (acs (setL L k x))) ∧ Below w.heap.size w w' := by
  have hm : k % 128 < 128 := Nat.mod_lt _ (by omega)
  have HI := Lib.hid (info29 L hL)
  have HC := Lib.hid (fun W => find_any L k hL hk W)
  have HL := Lib.hid hL
  have P0 := Lib.hid (lies_past _ (.cells (acs Z0) 29) L w.heap.size (lies_new w L w.heap.size rfl))
  have P1 := Lib.hid (lies_new (w.alloc (.cells (acs L) 29)) Z0 (w.heap.size + 1) (by simp))
  have HB := Lib.hid (((Below.refl w.heap.size w).alloc (Nat.le_refl _) (.cells (acs L) 29)).alloc (by simp) (.cells (acs Z0) 29))
  have hz := zero29' (w.alloc (.cells (acs L) 29))
  obtain ⟨j, hj⟩ : ∃ j, j = k % 128 := ⟨_, rfl⟩
  cases hh : has L k
  · have hD : setL L k x = L := by simp [setL, hh]
    rw [hD]
    rw [hh] at HC
    have HZ := Lib.hid (show (acs Z0).size = (acs L).size by rw [acs_size, acs_size, HL.out, Z0_len])
    rw [← hj] at HC hm
    clear hL hj
    go_enter Try.func27, Try.ntmps27
    go_wp2_with (refine wpList_load_row rfl 29 (.tmp 3) rfl _ rfl _ _ _ _ P0.out Try.underlying29 rfl HI.out ?_)
    refine (HC.out _).mono ?_; rintro e w1 ⟨rfl, b⟩
    have P0 := Lib.hid (P0.out.next b)
    have P1 := Lib.hid (P1.out.next b)
    have HB := Lib.hid (bnext HB.out (Nat.le_refl _) b)
    clear b hz
    go_wp2_with (first | (refine wpList_load_row rfl 29 (.tmp 3) rfl _ rfl _ _ _ _ P0.out Try.underlying29 rfl HI.out ?_) | (refine wpList_store_row rfl 29 (.tmp 6) (.tmp 21) rfl _ _ rfl rfl _ _ P1.out HI.out HZ.out (acs_one _) ?_))
    have hR := setRow_heap w1 (w.heap.size + 1) (acs Z0) (acs L) 29 (0, 0) P1.out
    exact bodyPost_ret (results_cell_row rfl _ _ _ _ _ _ _ rfl hR Try.underlying29 rfl HI.out) rfl ⟨rfl, below_setRow HB.out (by omega) _⟩
  · have hD : setL L k x = L.set (k % 128) (x, sG L (k % 128), sU L (k % 128)) := by simp [setL, hh]
    rw [hD]
    rw [hh] at HC
    rw [← hj] at HC hm ⊢
    clear hj
    have k0 : (0 : Int) ≤ (j : Int) := by omega
    have k1 : (j : Int) < 128 := by omega
    obtain ⟨LC, hLC⟩ : ∃ A, A = L.set j (x, sG L j, sU L j) := ⟨_, rfl⟩
    rw [← hLC]
    have lC : LC.length = 128 := by rw [hLC, List.length_set]; exact HL.out
    have HK := Lib.hid (info29 LC lC)
    have HY := Lib.hid (show (acs Z0).size = (acs LC).size by rw [acs_size, acs_size, lC, Z0_len])
    have HE := Lib.hid hLC
    clear hL hLC lC
    go_enter Try.func27, Try.ntmps27
    go_wp2_with (refine wpList_load_row rfl 29 (.tmp 3) rfl _ rfl _ _ _ _ P0.out Try.underlying29 rfl HI.out ?_)
    refine (HC.out _).mono ?_; rintro e w1 ⟨rfl, b⟩
    have P0 := Lib.hid (P0.out.next b)
    have P1 := Lib.hid (P1.out.next b)
    have HB := Lib.hid (bnext HB.out (Nat.le_refl _) b)
    have l0 := P0.out.lt
    have c1 := P0.out.cell (j * 3)
    rw [acs_get0 L j (by rw [HL.out]; exact hm)] at c1
    have f1 := P0.out.frozen (j * 3)
    have q1 := P0.out.setx j x (by rw [HL.out]; exact hm)
    rw [← HE.out] at q1
    have Q0 := Lib.hid q1
    have Q1 := Lib.hid (P1.out.far ⟨w.heap.size, j * 3, none⟩ (.int .i64 x) (by simp))
    have HB2 := Lib.hid (HB.out.setCell (p := ⟨w.heap.size, j * 3, none⟩) (Nat.le_refl _) (.int .i64 x))
    clear b hz q1
    go_wp2_with (first | (refine wpList_load_row rfl 29 (.tmp 3) rfl _ rfl _ _ _ _ Q0.out Try.underlying29 rfl HK.out ?_) | (refine wpList_store_row rfl 29 (.tmp 6) (.tmp 21) rfl _ _ rfl rfl _ _ Q1.out HK.out HY.out (acs_one _) ?_))
    have hR := setRow_heap _ (w.heap.size + 1) (acs Z0) (acs LC) 29 (0, 0) Q1.out
    exact bodyPost_ret (results_cell_row rfl _ _ _ _ _ _ _ rfl hR Try.underlying29 rfl HK.out) rfl ⟨rfl, below_setRow HB2.out (by omega) _⟩
end Go.Proofs.Ytfdbibddhneklab.Arena
