/- Path: Find, off the map. No condition. -/
import Derived.Test.YtkbimhngbdbgdaaFind
namespace Go.Proofs.Ytkbimhngbdbgdaa.PPathFinds
open Go.RowKit Go.Proofs.YtkbimhngbdbgdaaW.PrintWords Go.Proofs.YtkbimhngbdbgdaaW.PrintLast Go.Proofs.YtkbimhngbdbgdaaW.PrintMore
attribute [local go_sem] max2_int min2_int max_two min_two max_three min_three max_four min_four   -- for this text's walks alone
set_option linter.unusedVariables false
set_option linter.unusedSimpArgs false
set_option maxHeartbeats 8000000
set_option maxRecDepth 20000
def offB (s : ByteArray) (t : Int) : Bool := decide (0 ≤ t ∧ t < (s.size : Int))
theorem on_calls (mw mh : Int) (ms : ByteArray) (t : Int) (W : World) : Calls Try.prog 11 #[.agg #[.int .i64 mw, .int .i64 mh, .string ms], .int .i64 t] W fun e w' => e = .returned (.bool (offB ms t)) ∧ Below W.heap.size W w' := by
  refine grid_Map_On.calls mw mh ms t (offB ms t) W ?_
  unfold grid_Map_On.f offB
  by_cases h : t ≥ 0
  · rw [if_pos h]; congr 1; rw [decide_eq_decide]; omega
  · rw [if_neg h]; congr 1; symm; rw [decide_eq_false_iff_not]; omega
theorem find_no (w : World) (mw mh : Int) (ms : ByteArray) (bz : Value) (from_ goal near : Int) (hno : ¬ (offB ms from_ = true ∧ offB ms goal = true ∧ 0 ≤ near)) :
    Calls Try.prog 8 #[.agg #[.int .i64 mw, .int .i64 mh, .string ms], bz, .int .i64 from_, .int .i64 goal, .int .i64 near] w fun e W' => e = .returned (.tuple #[.slice none 0 0, .bool false]) ∧ Below w.heap.size w W' := by
  have hba := below_alloc (Below.refl w.heap.size w) (.cells #[.int .i64 mw, .int .i64 mh, .string ms] 25)
  have hb5 := blk_new w (.cells #[.int .i64 mw, .int .i64 mh, .string ms] 25)
  have HBA := Lib.hid hba
  have H5 := Lib.hid hb5
  have O1 := fun W => on_calls mw mh ms from_ W
  have O2 := fun W => on_calls mw mh ms goal W
  clear hba hb5
  cases e1 : offB ms from_ with
  | false =>
    rw [e1] at O1
    replace O1 := Lib.hid O1
    replace O2 := Lib.hid O2
    clear e1 hno
    go_enter Try.func8, Try.ntmps8
    go_wp2_with (first | (refine (O1.out _).mono ?_; rintro e w1 ⟨rfl, hb1⟩; have HB1 := Lib.hid (below_then HBA.out HBA.out.size hb1); clear O1 hb1) | fail)
    go_ret2
    exact ⟨rfl, HB1.out⟩
  | true =>
    rw [e1] at O1
    replace O1 := Lib.hid O1
    cases e2 : offB ms goal with
    | false =>
      rw [e2] at O2
      replace O2 := Lib.hid O2
      clear e1 e2 hno
      go_enter Try.func8, Try.ntmps8
      go_wp2_with (first
        | (refine (O1.out _).mono ?_; rintro e w1 ⟨rfl, hb1⟩; have HB1 := Lib.hid (below_then HBA.out HBA.out.size hb1); have h5 := (hb1.block w.heap.size (blk_lt H5.out)).trans H5.out; obtain ⟨c0, c1, c2⟩ := cells3 h5; clear O1 H5 HBA hb1 h5)
        | (refine (O2.out _).mono ?_; rintro e w2 ⟨rfl, hb2⟩; have HB2 := Lib.hid (below_then HB1.out HB1.out.size hb2); clear O2 HB1 hb2)
        | fail)
      go_ret2
      exact ⟨rfl, HB2.out⟩
    | true =>
      rw [e2] at O2
      replace O2 := Lib.hid O2
      have hd3 : decide (near < 0) = true := decide_eq_true (by have : ¬ 0 ≤ near := fun h => hno ⟨e1, e2, h⟩; omega)
      clear e1 e2 hno
      go_enter Try.func8, Try.ntmps8
      go_wp2_with (first
        | (refine (O1.out _).mono ?_; rintro e w1 ⟨rfl, hb1⟩; have HB1 := Lib.hid (below_then HBA.out HBA.out.size hb1); have h5 := (hb1.block w.heap.size (blk_lt H5.out)).trans H5.out; obtain ⟨c0, c1, c2⟩ := cells3 h5; clear O1 H5 HBA hb1 h5)
        | (refine (O2.out _).mono ?_; rintro e w2 ⟨rfl, hb2⟩; have HB2 := Lib.hid (below_then HB1.out HB1.out.size hb2); clear O2 HB1 hb2)
        | fail)
      go_ret2
      exact ⟨rfl, HB2.out⟩
end Go.Proofs.Ytkbimhngbdbgdaa.PPathFinds
