import Derived.Test.YtfdbibddhneklabArC
namespace Go.Proofs.Ytfdbibddhneklab.Arena
open Go.RowKit
set_option linter.unusedVariables false
set_option linter.unusedSimpArgs false
set_option maxRecDepth 100000
set_option maxHeartbeats 1000000
theorem results_cell3 {P : Program} {fn : Func} {p t1 t2 : Tmp} {ty : TypeId} (h : fn.results = #[.cell p ty, .tmp t1, .tmp t2]) (tmps : Array Value) (w : World) (g : Nat) (t : TypeId) (cs : Array Value) (fr : Nat × Nat) (d : TypeDesc)
    (hp : tmps.getD p undef = .pointer (some ⟨g, 0, none⟩)) (hg : w.heap[g]? = some (.cells cs t fr))
    (hu : P.underlying ty = some d) (hd : (match d with | .struct _ | .array _ _ => true | _ => false) = true) (hi : (P.info? ty).map (·.size) = some cs.size) :
    (results fn tmps).run P w = .ok (.tuple #[.agg cs, tmps.getD t1 undef, tmps.getD t2 undef]) w := by
  have hp' : tmps[p]?.getD undef = .pointer (some ⟨g, 0, none⟩) := by simpa using hp
  simp [results, h, hp', asAddr, run_loadVar_row w g t ty cs fr d hg hu hd hi]
theorem info27 (L : List Sl) (hL : L.length = 128) : ((Try.prog.info? 27).map (·.size)) = some (acs L).size := by rw [acs_size, hL]; kernel_rfl
theorem acs_extract (L : List Sl) (k : Nat) (h : k < L.length) : (acs L).extract (k * 3) (k * 3 + 3) = #[.int .i64 (sX L k), .int .u16 (sG L k), .bool (sU L k)] := by
  apply Array.ext_getElem?
  intro i
  rw [Array.getElem?_extract]
  have hs := acs_size L
  by_cases hi : i < 3
  · rw [if_pos (by omega)]
    rcases i with _ | _ | _ | i
    · rw [Nat.add_zero, acs_get0 L k h]; rfl
    · rw [acs_get1 L k h]; rfl
    · rw [acs_get2 L k h]; rfl
    · omega
  · rw [if_neg (by omega)]
    rw [Array.getElem?_eq_none (by simp; omega)]
theorem index27 (L : List Sl) (k : Nat) (hL : L.length = 128) (hk : k < 128) (W : World) : (Instr.index 27 (.agg (acs L)) (.int .i64 k)).run Try.prog W = .ok (.agg #[.int .i64 (sX L k), .int .u16 (sG L k), .bool (sU L k)]) W := by
  have hu : (underlying 27).run Try.prog W = .ok (.array 128 26) W := run_underlying Try.underlying27 W
  have hz : (sizeOf 26).run Try.prog W = .ok 3 W := by kernel_rfl
  have hk2 : (0 : Int) ≤ (k : Int) ∧ (k : Int) < 128 := by omega
  simp [Instr.index, asIntOf, hu, hk2, hz]
  rw [if_pos hk]
  have ha : (isAgg 26).run Try.prog W = .ok true W := by kernel_rfl
  simp only [part, Sem.run_bind, ha, Result.andThen_ok, if_true, hz, Sem.run_pure]
  rw [acs_extract L k (by omega)]
theorem Lies.row {W : World} {g n : Nat} {L : List Sl} (h : Lies W g L) (hne : g ≠ n) (c : Array Value) : Lies (W.setRow n c) g L := (setRow_other W n g c hne).trans h
theorem Lies.same {W : World} {g : Nat} {R : List Sl} (h : Lies W g R) (L : List Sl) : Lies (W.setRow g (acs L)) g L := setRow_heap W g _ _ 29 (0, 0) h
theorem still_load_row {P : Program} {ops : Array Oper} {rest : List Oper} {o : Oper} {a : Act} {w : World} {Q : Act → Prop} (hgd : o.guard = none) (ty : TypeId) (x : Operand) (ho : o.op = .load ty x)
    (g : Nat) (hx : a.eval x = .pointer (some ⟨g, 0, none⟩)) (t : TypeId) (cs : Array Value) (fr : Nat × Nat) (d : TypeDesc) (hg : w.heap[g]? = some (.cells cs t fr))
    (hu : P.underlying ty = some d) (hd : (match d with | .struct _ | .array _ _ => true | _ => false) = true) (hi : (P.info? ty).map (·.size) = some cs.size)
    (h : wpStill P ops w Q rest (a.put o.dst (.agg cs))) : wpStill P ops w Q (o :: rest) a := by
  unfold wpStill
  rw [if_pos (by simp [Region.wanted, hgd])]
  unfold Oper.still execOp
  simp only [ho, hx, Instr.loadAt, Instr.sureAddr, Sem.run_bind, Sem.run_pure, Result.andThen_ok, run_loadVar_row w g t ty cs fr d hg hu hd hi]
  rw [Oper.stillUpon_value]
  exact h
def addable (L : List Sl) (m : Nat) : Bool := !sU L m && decide (sG L m ≤ 511)
def firstF (L : List Sl) : Option Nat := (List.range 128).find? (addable L)
def addL (L : List Sl) (x : Int) : List Sl := match firstF L with | some m => L.set m (x, sG L m, true) | none => L
def addId (L : List Sl) : Int := match firstF L with | some m => idOf L m | none => 0
theorem firstF_some {L : List Sl} {i : Nat} (hi : i < 128) (h : addable L i = true) (hb : ∀ m, m < i → addable L m = false) : firstF L = some i := by
  unfold firstF
  rw [List.find?_range_eq_some]
  exact ⟨h, List.mem_range.2 hi, fun j hj => by simp [hb j hj]⟩
theorem firstF_none {L : List Sl} (hb : ∀ m, m < 128 → addable L m = false) : firstF L = none := by
  unfold firstF
  rw [List.find?_eq_none]
  intro x hx
  rw [hb x (List.mem_range.1 hx)]
  simp

theorem add_any (L : List Sl) (x : Int) (hL : L.length = 128) (w : World) : Calls Try.prog 11 #[.agg (acs L), .int .i64 x] w fun e w' => e = .returned (.tuple #[.agg (acs (addL L x)), .int .u16 (addId L), .bool (firstF L).isSome]) ∧ Below w.heap.size w w' := by
  have HI := Lib.hid (info29 L hL)
  have HI7 := Lib.hid (info27 L hL)
  have HJ := Lib.hid (fun L' (h' : L'.length = 128) => info29 L' h')
  have HL := Lib.hid hL
  have hz := zero29' (w.alloc (.cells (acs L) 29))
  have P0 := Lib.hid (lies_past _ (.cells (acs Z0) 29) L w.heap.size (lies_new w L w.heap.size rfl))
  have P1 := Lib.hid (lies_new (w.alloc (.cells (acs L) 29)) Z0 (w.heap.size + 1) (by simp))
  have HB := Lib.hid (((Below.refl w.heap.size w).alloc (Nat.le_refl _) (.cells (acs L) 29)).alloc (by simp) (.cells (acs Z0) 29))
  clear hL
  go_enter Try.func11, Try.ntmps11
  go_wp2_with (refine wpList_load_row rfl 27 (.tmp 9) rfl _ rfl _ _ _ _ P0.out Try.underlying27 rfl HI7.out ?_)
  go_loopw [11] (fun v wr => ∃ k : Nat, v = .int .i64 k ∧ k ≤ 128 ∧ (∀ m, m < k → addable L m = false) ∧ Lies wr w.heap.size L ∧ Lies wr (w.heap.size + 1) Z0 ∧ Below w.heap.size w wr) (fun v _ => 128 - (intOf v).toNat)
  case atStart => exact ⟨0, rfl, by omega, fun m hm => by omega, P0.out, P1.out, HB.out⟩
  case round =>
    obtain ⟨k, rfl, hk, hb, Q0, Q1, QB⟩ := hrel
    by_cases h : k < 128
    · have g0 := acs_get0 L k (by rw [HL.out]; omega)
      have g1 := acs_get1 L k (by rw [HL.out]; omega)
      have g2 := acs_get2 L k (by rw [HL.out]; omega)
      have hix := index27 L k HL.out h wr
      have h128 : (k : Int) < 128 := by omega
      cases hu : sU L k
      · by_cases hs : sG L k ≤ 511
        · have hA : addable L k = true := by simp [addable, hu, hs]
          have hF := firstF_some h hA hb
          have e1 : Hid (addL L x = L.set k (x, sG L k, true)) := Lib.hid (by unfold addL; rw [hF])
          have e2 : Hid (addId L = idOf (L.set k (x, sG L k, true)) k) := Lib.hid (by unfold addId; rw [hF]; simp [idOf, sG, List.getD_eq_getElem?_getD, List.getElem?_set, show k < L.length by rw [HL.out]; exact h])
          have e3 : Hid ((firstF L).isSome = true) := Lib.hid (by rw [hF]; rfl)
          rw [hu] at hix g2
          have V0 := Lib.hid (lies_past wr (.cells #[.int .i64 (sX L k), .int .u16 (sG L k), .bool false] 26) L w.heap.size Q0)
          have V1 := Lib.hid (lies_past wr (.cells #[.int .i64 (sX L k), .int .u16 (sG L k), .bool false] 26) Z0 (w.heap.size + 1) Q1)
          have c0 := V0.out.cell (k * 3)
          have c1 := V0.out.cell (k * 3 + 1)
          have c2 := V0.out.cell (k * 3 + 2)
          rw [g0] at c0
          rw [g1] at c1
          rw [g2] at c2
          have f0 := V0.out.frozen (k * 3)
          have f1 := V0.out.frozen (k * 3 + 1)
          have f2 := V0.out.frozen (k * 3 + 2)
          have l0 := QB.size
          have QB1 := Lib.hid (QB.alloc l0 (.cells #[.int .i64 (sX L k), .int .u16 (sG L k), .bool false] 26))
          have U0 := Lib.hid (V0.out.put k x (sG L k) true (by rw [HL.out]; omega))
          have U1 := Lib.hid (((V1.out.far ⟨w.heap.size, k * 3, none⟩ (.int .i64 x) (by simp)).far ⟨w.heap.size, k * 3 + 1, none⟩ (.int .u16 (sG L k)) (by simp)).far ⟨w.heap.size, k * 3 + 2, none⟩ (.bool true) (by simp))
          have UB := Lib.hid (below_putSlot QB1.out (Nat.le_refl _) k x (sG L k) true)
          have HK := Lib.hid (HJ.out (L.set k (x, sG L k, true)) (by rw [List.length_set]; exact HL.out))
          have HY := Lib.hid (show (acs Z0).size = (acs (L.set k (x, sG L k, true))).size by rw [acs_size, acs_size, List.length_set, HL.out, Z0_len])
          have HC := Lib.hid (fun W => id_any (L.set k (x, sG L k, true)) k (by rw [List.length_set]; exact HL.out) h W)
          clear hF hA Q0 Q1 QB g0 g1 g2 V0 V1 QB1
          go_wp2_with fail
          refine wp_region_inv (fun a0 w0 b a' w' => ∃ x30 x31 x32 x33 x5 x6 : Value, a' = ((((((a0.put (some 30) x30).put (some 31) x31).put (some 32) x32).put (some 33) x33).put (some 5) x5).put (some 6) x6) ∧ Lies w' w.heap.size (L.set k (x, sG L k, true)) ∧ (∃ R : List Sl, Lies w' (w.heap.size + 1) R ∧ R.length = 128 ∧ (b 4 = true → R = (L.set k (x, sG L k, true)))) ∧ Below w.heap.size w w' ∧ (b 0 = true → x30 = .agg (acs (L.set k (x, sG L k, true)))) ∧ (b 1 = true → x31 = .agg (acs (L.set k (x, sG L k, true)))) ∧ (b 2 = true → x32 = .int .i64 k) ∧ (b 3 = true → x33 = .int .u16 (idOf (L.set k (x, sG L k, true)) k)) ∧ (b 5 = true → x5 = .int .u16 (idOf (L.set k (x, sG L k, true)) k)) ∧ (b 6 = true → x6 = .bool true)) (by kernel_rfl) (by kernel_rfl) ?start ⟨?op0, ?op1, ?op2, ?op3, ?op4, ?op5, ?op6, trivial⟩ ?done
          case start => exact ⟨_, _, _, _, _, _, by simp only [Act.put, List.setIfInBounds_toArray, List.set_cons_zero, List.set_cons_succ]; rfl, U0.out, ⟨Z0, U1.out, Z0_len, fun h => absurd h (by decide)⟩, UB.out.drew, fun h => absurd h (by decide), fun h => absurd h (by decide), fun h => absurd h (by decide), fun h => absurd h (by decide), fun h => absurd h (by decide), fun h => absurd h (by decide)⟩
          case op0 =>
            rintro bb _ w' ⟨x30, x31, x32, x33, x5, x6, rfl, t0, ⟨R, t1, tl, tb⟩, B, p30, p31, p32, p33, p5, p6⟩ hb hd K hK
            simp only [Act.put, List.setIfInBounds_toArray, List.set_cons_zero, List.set_cons_succ]
            rw [if_pos (by rfl)]
            refine wp_load_row 29 (.tmp 2) rfl _ rfl _ _ _ _ t0 Try.underlying29 rfl HK.out ?_
            try simp only [Act.put, List.setIfInBounds_toArray, List.set_cons_zero, List.set_cons_succ]
            exact hK _ _ ⟨.agg (acs (L.set k (x, sG L k, true))), x31, x32, x33, x5, x6, by simp only [Act.put, List.setIfInBounds_toArray, List.set_cons_zero, List.set_cons_succ], t0, ⟨R, t1, tl, fun h => tb (by simpa [upb] using h)⟩, B, fun _ => rfl, fun h => p31 (by simpa [upb] using h), fun h => p32 (by simpa [upb] using h), fun h => p33 (by simpa [upb] using h), fun h => p5 (by simpa [upb] using h), fun h => p6 (by simpa [upb] using h)⟩
          case op1 =>
            rintro bb _ w' ⟨x30, x31, x32, x33, x5, x6, rfl, t0, ⟨R, t1, tl, tb⟩, B, p30, p31, p32, p33, p5, p6⟩ hb hd K hK
            simp only [Act.put, List.setIfInBounds_toArray, List.set_cons_zero, List.set_cons_succ]
            rw [if_pos (by rfl)]
            refine wp_load_row 29 (.tmp 2) rfl _ rfl _ _ _ _ t0 Try.underlying29 rfl HK.out ?_
            try simp only [Act.put, List.setIfInBounds_toArray, List.set_cons_zero, List.set_cons_succ]
            exact hK _ _ ⟨x30, .agg (acs (L.set k (x, sG L k, true))), x32, x33, x5, x6, by simp only [Act.put, List.setIfInBounds_toArray, List.set_cons_zero, List.set_cons_succ], t0, ⟨R, t1, tl, fun h => tb (by simpa [upb] using h)⟩, B, fun h => p30 (by simpa [upb] using h), fun _ => rfl, fun h => p32 (by simpa [upb] using h), fun h => p33 (by simpa [upb] using h), fun h => p5 (by simpa [upb] using h), fun h => p6 (by simpa [upb] using h)⟩
          case op2 =>
            rintro bb _ w' ⟨x30, x31, x32, x33, x5, x6, rfl, t0, ⟨R, t1, tl, tb⟩, B, p30, p31, p32, p33, p5, p6⟩ hb hd K hK
            simp only [Act.put, List.setIfInBounds_toArray, List.set_cons_zero, List.set_cons_succ]
            rw [if_pos (by rfl)]
            go_simp
            exact hK _ _ ⟨x30, x31, .int .i64 k, x33, x5, x6, by simp only [Act.put, List.setIfInBounds_toArray, List.set_cons_zero, List.set_cons_succ], t0, ⟨R, t1, tl, fun h => tb (by simpa [upb] using h)⟩, B, fun h => p30 (by simpa [upb] using h), fun h => p31 (by simpa [upb] using h), fun _ => rfl, fun h => p33 (by simpa [upb] using h), fun h => p5 (by simpa [upb] using h), fun h => p6 (by simpa [upb] using h)⟩
          case op3 =>
            rintro bb _ w' ⟨x30, x31, x32, x33, x5, x6, rfl, t0, ⟨R, t1, tl, tb⟩, B, p30, p31, p32, p33, p5, p6⟩ hb hd K hK
            simp only [Act.put, List.setIfInBounds_toArray, List.set_cons_zero, List.set_cons_succ]
            obtain rfl := p31 (hd 1 (by decide))
            obtain rfl := p32 (hd 2 (by decide))
            rw [if_pos (by rfl)]
            go_simp
            refine (HC.out _).mono ?_; rintro e w4 ⟨rfl, hbel⟩
            try dsimp only
            exact hK _ _ ⟨x30, .agg (acs (L.set k (x, sG L k, true))), .int .i64 k, .int .u16 (idOf (L.set k (x, sG L k, true)) k), x5, x6, by simp only [Act.put, List.setIfInBounds_toArray, List.set_cons_zero, List.set_cons_succ], t0.next hbel, ⟨R, t1.next hbel, tl, fun h => tb (by simpa [upb] using h)⟩, bnext B (Nat.le_refl _) hbel, fun h => p30 (by simpa [upb] using h), fun _ => rfl, fun _ => rfl, fun _ => rfl, fun h => p5 (by simpa [upb] using h), fun h => p6 (by simpa [upb] using h)⟩
          case op4 =>
            rintro bb _ w' ⟨x30, x31, x32, x33, x5, x6, rfl, t0, ⟨R, t1, tl, tb⟩, B, p30, p31, p32, p33, p5, p6⟩ hb hd K hK
            simp only [Act.put, List.setIfInBounds_toArray, List.set_cons_zero, List.set_cons_succ]
            obtain rfl := p30 (hd 0 (by decide))
            rw [if_pos (by rfl)]
            refine wp_store_row 29 (.tmp 4) (.tmp 30) rfl _ _ rfl rfl _ _ t1 HK.out (by rw [acs_size, acs_size, tl, List.length_set, HL.out]) (acs_one _) ?_
            try simp only [Act.put, List.setIfInBounds_toArray, List.set_cons_zero, List.set_cons_succ]
            exact hK _ _ ⟨.agg (acs (L.set k (x, sG L k, true))), x31, x32, x33, x5, x6, by simp only [Act.put, List.setIfInBounds_toArray, List.set_cons_zero, List.set_cons_succ], t0.row (by omega) _, ⟨_, t1.same _, by rw [List.length_set]; exact HL.out, fun _ => rfl⟩, below_setRow B (by omega) _, fun _ => rfl, fun h => p31 (by simpa [upb] using h), fun h => p32 (by simpa [upb] using h), fun h => p33 (by simpa [upb] using h), fun h => p5 (by simpa [upb] using h), fun h => p6 (by simpa [upb] using h)⟩
          case op5 =>
            rintro bb _ w' ⟨x30, x31, x32, x33, x5, x6, rfl, t0, ⟨R, t1, tl, tb⟩, B, p30, p31, p32, p33, p5, p6⟩ hb hd K hK
            simp only [Act.put, List.setIfInBounds_toArray, List.set_cons_zero, List.set_cons_succ]
            obtain rfl := p33 (hd 3 (by decide))
            rw [if_pos (by rfl)]
            go_simp
            exact hK _ _ ⟨x30, x31, x32, .int .u16 (idOf (L.set k (x, sG L k, true)) k), .int .u16 (idOf (L.set k (x, sG L k, true)) k), x6, by simp only [Act.put, List.setIfInBounds_toArray, List.set_cons_zero, List.set_cons_succ], t0, ⟨R, t1, tl, fun h => tb (by simpa [upb] using h)⟩, B, fun h => p30 (by simpa [upb] using h), fun h => p31 (by simpa [upb] using h), fun h => p32 (by simpa [upb] using h), fun _ => rfl, fun _ => rfl, fun h => p6 (by simpa [upb] using h)⟩
          case op6 =>
            rintro bb _ w' ⟨x30, x31, x32, x33, x5, x6, rfl, t0, ⟨R, t1, tl, tb⟩, B, p30, p31, p32, p33, p5, p6⟩ hb hd K hK
            simp only [Act.put, List.setIfInBounds_toArray, List.set_cons_zero, List.set_cons_succ]
            rw [if_pos (by rfl)]
            go_simp
            exact hK _ _ ⟨x30, x31, x32, x33, x5, .bool true, by simp only [Act.put, List.setIfInBounds_toArray, List.set_cons_zero, List.set_cons_succ], t0, ⟨R, t1, tl, fun h => tb (by simpa [upb] using h)⟩, B, fun h => p30 (by simpa [upb] using h), fun h => p31 (by simpa [upb] using h), fun h => p32 (by simpa [upb] using h), fun h => p33 (by simpa [upb] using h), fun h => p5 (by simpa [upb] using h), fun _ => rfl⟩
          case done =>
            rintro bb _ w' hb ⟨x30, x31, x32, x33, x5, x6, rfl, t0, ⟨R, t1, tl, tb⟩, B, p30, p31, p32, p33, p5, p6⟩
            obtain rfl := p30 (hb 0 (by decide))
            obtain rfl := p31 (hb 1 (by decide))
            obtain rfl := p32 (hb 2 (by decide))
            obtain rfl := p33 (hb 3 (by decide))
            obtain rfl := p5 (hb 5 (by decide))
            obtain rfl := p6 (hb 6 (by decide))
            simp only [Act.put, List.setIfInBounds_toArray, List.set_cons_zero, List.set_cons_succ]
            obtain rfl := tb (hb 4 (by decide))
            go_wp2_with fail
            refine bodyPost_ret (results_cell3 rfl _ _ _ _ _ _ _ rfl t1 Try.underlying29 rfl HK.out) rfl ?_
            rw [e1.out, e2.out, e3.out]
            exact ⟨rfl, B⟩
        · have hA : addable L k = false := by simp [addable, hs]
          rw [hu] at hix g2
          go_wp2_with fail
          exact ⟨⟨k + 1, by go_num, by omega, fun m hm => (if e : m = k then by rw [e]; exact hA else hb m (by omega)), lies_past _ _ _ _ Q0, lies_past _ _ _ _ Q1, QB.alloc QB.size _⟩, by simp [intOf]; omega⟩
      · have hA : addable L k = false := by simp [addable, hu]
        rw [hu] at hix g2
        go_wp2_with fail
        exact ⟨⟨k + 1, by go_num, by omega, fun m hm => (if e : m = k then by rw [e]; exact hA else hb m (by omega)), lies_past _ _ _ _ Q0, lies_past _ _ _ _ Q1, QB.alloc QB.size _⟩, by simp [intOf]; omega⟩
    · obtain rfl : k = 128 := by omega
      have hF := firstF_none hb
      have e1 : Hid (addL L x = L) := Lib.hid (by unfold addL; rw [hF])
      have e2 : Hid (addId L = 0) := Lib.hid (by unfold addId; rw [hF])
      have e3 : Hid ((firstF L).isSome = false) := Lib.hid (by rw [hF]; rfl)
      have HY := Lib.hid (show (acs Z0).size = (acs L).size by rw [acs_size, acs_size, HL.out, Z0_len])
      have V0 := Lib.hid Q0
      have V1 := Lib.hid Q1
      have VB := Lib.hid QB
      clear Q0 Q1 QB hF
      go_wp2_with (first | (refine wpList_load_row rfl 29 (.tmp 2) rfl _ rfl _ _ _ _ V0.out Try.underlying29 rfl HI.out ?_) | (refine wpList_store_row rfl 29 (.tmp 4) (.tmp 35) rfl _ _ rfl rfl _ _ V1.out HI.out HY.out (acs_one _) ?_))
      have hR := setRow_heap _ (w.heap.size + 1) (acs Z0) (acs L) 29 (0, 0) V1.out
      refine bodyPost_ret (results_cell3 rfl _ _ _ _ _ _ _ rfl hR Try.underlying29 rfl HI.out) rfl ?_
      rw [e1.out, e2.out, e3.out]
      exact ⟨rfl, below_setRow VB.out (by omega) _⟩
end Go.Proofs.Ytfdbibddhneklab.Arena
