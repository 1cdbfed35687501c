-- by a program of ours (the kit's print, turned, and hand texts beside it), out of the translation; not trusted: Lean checks it
import Derived.Test.YtfdbibddhneklabPGridStepsx0
import Derived.Test.YtfdbibddhneklabPGridStepsx2
import Derived.Test.YtfdbibddhneklabPGridStepsx3
namespace Go.Proofs.Ytfdbibddhneklab.PGridSteps
open Go.RowKit Go.Proofs.YtfdbibddhneklabW.PrintWords Go.Proofs.YtfdbibddhneklabW.PrintLast Go.Proofs.YtfdbibddhneklabW.PrintMore
attribute [local go_sem] max2_int min2_int max_two min_two max_three min_three max_four min_four   -- for this text's walks alone
set_option linter.unusedVariables false
set_option linter.unusedSimpArgs false

/-! ### rematchlaw07_wakes: function 38 -/
def rematchlaw07_wakes.f (k : Nat)  : Option (Bool) := (grid_New.f 4 4 (⟨#[0, 0, 0, 0, 0, 0, 0, 0, 0, 0, 0, 0, 0, 0, 0, 1]⟩ : ByteArray)).bind fun bt116 => ((grid_Map_Around.f bt116.1 bt116.2.1 bt116.2.2.1 5 1).bind fun t121 => ((grid_Map_Next.f bt116.1 bt116.2.1 bt116.2.2.1 0).bind fun t124 => ((grid_Map_XY.f bt116.1 bt116.2.1 bt116.2.2.1 6).bind fun bt127 => (if bt116.2.2.2 = 0 then ((grid_Map_Len.f bt116.1 bt116.2.1 bt116.2.2.1).bind fun t129 => (if t129 = 16 then ((grid_Map_Far.f k bt116.1 bt116.2.1 bt116.2.2.1 0 15).bind fun t130 => (if t130 = 6 then (if (t121.length : Int) = 5 then (if 0 < (t121.length : Int) then (if (rd t121 0) = 1 then (if 4 < (t121.length : Int) then (if (rd t121 4) = 9 then (if (t124.length : Int) = 2 then (if 0 < (t124.length : Int) then (if (rd t124 0) = 1 then (if bt127.1 = 2 then (if bt127.2 = 1 then ((grid_Map_Walk.f bt116.1 bt116.2.1 bt116.2.2.1 14).bind fun t134 => (if t134 = true then ((grid_Map_Walk.f bt116.1 bt116.2.1 bt116.2.2.1 15).bind fun t135 => (some (!t135))) else (none))) else (none)) else (none)) else (none)) else (none)) else (none)) else (none)) else (none)) else (none)) else (none)) else (none)) else (none))) else (none))) else (none)))))
theorem rematchlaw07_wakes.mono : ∀ k, LeO (rematchlaw07_wakes.f k ) (rematchlaw07_wakes.f (k + 1) ) := by
  intro  k
  unfold rematchlaw07_wakes.f
  repeat' first
      | (with_reducible exact grid_Map_Far.mono _ _ _ _ _ _)
      | (with_reducible exact LeO.refl _)
      | (with_reducible exact LeO.none _)
      | (with_reducible refine LeO.ite ?_ ?_)
      | (with_reducible refine LeO.bind ?_ (fun _ => ?_))
      | exact grid_Map_Far.mono _ _ _ _ _ _
      | exact LeO.none _
      | refine LeO.ite ?_ ?_
      | refine LeO.bind ?_ (fun _ => ?_)
set_option maxHeartbeats 8000000 in
set_option maxRecDepth 100000 in
theorem rematchlaw07_wakes.calls (k : Nat)  (r : Bool) (w : World) (h : rematchlaw07_wakes.f k  = some r) :
    Calls Try.prog 38 #[] w fun e w' => e = .returned (.bool r) ∧ Below w.heap.size w w' := by
  have hu77 := Try.underlying77
  have HB := Aside0.mk (Below.refl w.heap.size w)
  have H : ((grid_New.f 4 4 (⟨#[0, 0, 0, 0, 0, 0, 0, 0, 0, 0, 0, 0, 0, 0, 0, 1]⟩ : ByteArray)).bind fun bt116 => ((grid_Map_Around.f bt116.1 bt116.2.1 bt116.2.2.1 5 1).bind fun t121 => ((grid_Map_Next.f bt116.1 bt116.2.1 bt116.2.2.1 0).bind fun t124 => ((grid_Map_XY.f bt116.1 bt116.2.1 bt116.2.2.1 6).bind fun bt127 => (if bt116.2.2.2 = 0 then ((grid_Map_Len.f bt116.1 bt116.2.1 bt116.2.2.1).bind fun t129 => (if t129 = 16 then ((grid_Map_Far.f k bt116.1 bt116.2.1 bt116.2.2.1 0 15).bind fun t130 => (if t130 = 6 then (if (t121.length : Int) = 5 then (if 0 < (t121.length : Int) then (if (rd t121 0) = 1 then (if 4 < (t121.length : Int) then (if (rd t121 4) = 9 then (if (t124.length : Int) = 2 then (if 0 < (t124.length : Int) then (if (rd t124 0) = 1 then (if bt127.1 = 2 then (if bt127.2 = 1 then ((grid_Map_Walk.f bt116.1 bt116.2.1 bt116.2.2.1 14).bind fun t134 => (if t134 = true then ((grid_Map_Walk.f bt116.1 bt116.2.1 bt116.2.2.1 15).bind fun t135 => (some (!t135))) else (none))) else (none)) else (none)) else (none)) else (none)) else (none)) else (none)) else (none)) else (none)) else (none)) else (none)) else (none))) else (none))) else (none)))))) = some r := h
  clear h
  replace H := Option.bind_eq_some_iff.mp H
  obtain ⟨⟨t116, t117, t118, t119⟩, A10, H⟩ := H
  replace H : ((grid_Map_Around.f t116 t117 t118 5 1).bind fun t121 => ((grid_Map_Next.f t116 t117 t118 0).bind fun t124 => ((grid_Map_XY.f t116 t117 t118 6).bind fun bt127 => (if t119 = 0 then ((grid_Map_Len.f t116 t117 t118).bind fun t129 => (if t129 = 16 then ((grid_Map_Far.f k t116 t117 t118 0 15).bind fun t130 => (if t130 = 6 then (if (t121.length : Int) = 5 then (if 0 < (t121.length : Int) then (if (rd t121 0) = 1 then (if 4 < (t121.length : Int) then (if (rd t121 4) = 9 then (if (t124.length : Int) = 2 then (if 0 < (t124.length : Int) then (if (rd t124 0) = 1 then (if bt127.1 = 2 then (if bt127.2 = 1 then ((grid_Map_Walk.f t116 t117 t118 14).bind fun t134 => (if t134 = true then ((grid_Map_Walk.f t116 t117 t118 15).bind fun t135 => (some (!t135))) else (none))) else (none)) else (none)) else (none)) else (none)) else (none)) else (none)) else (none)) else (none)) else (none)) else (none)) else (none))) else (none))) else (none))))) = some r := H
  have A1 := Aside0.mk A10
  clear A10
  replace H := Option.bind_eq_some_iff.mp H
  obtain ⟨t121, A20, H⟩ := H
  replace H : ((grid_Map_Next.f t116 t117 t118 0).bind fun t124 => ((grid_Map_XY.f t116 t117 t118 6).bind fun bt127 => (if t119 = 0 then ((grid_Map_Len.f t116 t117 t118).bind fun t129 => (if t129 = 16 then ((grid_Map_Far.f k t116 t117 t118 0 15).bind fun t130 => (if t130 = 6 then (if (t121.length : Int) = 5 then (if 0 < (t121.length : Int) then (if (rd t121 0) = 1 then (if 4 < (t121.length : Int) then (if (rd t121 4) = 9 then (if (t124.length : Int) = 2 then (if 0 < (t124.length : Int) then (if (rd t124 0) = 1 then (if bt127.1 = 2 then (if bt127.2 = 1 then ((grid_Map_Walk.f t116 t117 t118 14).bind fun t134 => (if t134 = true then ((grid_Map_Walk.f t116 t117 t118 15).bind fun t135 => (some (!t135))) else (none))) else (none)) else (none)) else (none)) else (none)) else (none)) else (none)) else (none)) else (none)) else (none)) else (none)) else (none))) else (none))) else (none)))) = some r := H
  have A2 := Aside0.mk A20
  clear A20
  replace H := Option.bind_eq_some_iff.mp H
  obtain ⟨t124, A30, H⟩ := H
  replace H : ((grid_Map_XY.f t116 t117 t118 6).bind fun bt127 => (if t119 = 0 then ((grid_Map_Len.f t116 t117 t118).bind fun t129 => (if t129 = 16 then ((grid_Map_Far.f k t116 t117 t118 0 15).bind fun t130 => (if t130 = 6 then (if (t121.length : Int) = 5 then (if 0 < (t121.length : Int) then (if (rd t121 0) = 1 then (if 4 < (t121.length : Int) then (if (rd t121 4) = 9 then (if (t124.length : Int) = 2 then (if 0 < (t124.length : Int) then (if (rd t124 0) = 1 then (if bt127.1 = 2 then (if bt127.2 = 1 then ((grid_Map_Walk.f t116 t117 t118 14).bind fun t134 => (if t134 = true then ((grid_Map_Walk.f t116 t117 t118 15).bind fun t135 => (some (!t135))) else (none))) else (none)) else (none)) else (none)) else (none)) else (none)) else (none)) else (none)) else (none)) else (none)) else (none)) else (none))) else (none))) else (none))) = some r := H
  have A3 := Aside0.mk A30
  clear A30
  replace H := Option.bind_eq_some_iff.mp H
  obtain ⟨⟨t127, t128⟩, A40, H⟩ := H
  replace H : (if t119 = 0 then ((grid_Map_Len.f t116 t117 t118).bind fun t129 => (if t129 = 16 then ((grid_Map_Far.f k t116 t117 t118 0 15).bind fun t130 => (if t130 = 6 then (if (t121.length : Int) = 5 then (if 0 < (t121.length : Int) then (if (rd t121 0) = 1 then (if 4 < (t121.length : Int) then (if (rd t121 4) = 9 then (if (t124.length : Int) = 2 then (if 0 < (t124.length : Int) then (if (rd t124 0) = 1 then (if t127 = 2 then (if t128 = 1 then ((grid_Map_Walk.f t116 t117 t118 14).bind fun t134 => (if t134 = true then ((grid_Map_Walk.f t116 t117 t118 15).bind fun t135 => (some (!t135))) else (none))) else (none)) else (none)) else (none)) else (none)) else (none)) else (none)) else (none)) else (none)) else (none)) else (none)) else (none))) else (none))) else (none)) = some r := H
  have A4 := Aside0.mk A40
  clear A40
  by_cases c5 : t119 = 0
  · rw [if_pos c5] at H
    have c5b0 : (t119 == 0) = true := beq_iff_eq.mpr c5
    have c5b1 : (t119 != 0) = false := bne_eq_false_iff_eq.mpr c5
    clear c5
    replace H := Option.bind_eq_some_iff.mp H
    obtain ⟨t129, A60, H⟩ := H
    replace H : (if t129 = 16 then ((grid_Map_Far.f k t116 t117 t118 0 15).bind fun t130 => (if t130 = 6 then (if (t121.length : Int) = 5 then (if 0 < (t121.length : Int) then (if (rd t121 0) = 1 then (if 4 < (t121.length : Int) then (if (rd t121 4) = 9 then (if (t124.length : Int) = 2 then (if 0 < (t124.length : Int) then (if (rd t124 0) = 1 then (if t127 = 2 then (if t128 = 1 then ((grid_Map_Walk.f t116 t117 t118 14).bind fun t134 => (if t134 = true then ((grid_Map_Walk.f t116 t117 t118 15).bind fun t135 => (some (!t135))) else (none))) else (none)) else (none)) else (none)) else (none)) else (none)) else (none)) else (none)) else (none)) else (none)) else (none)) else (none))) else (none)) = some r := H
    have A6 := Aside0.mk A60
    clear A60
    by_cases c7 : t129 = 16
    · rw [if_pos c7] at H
      have c7b0 : (t129 == 16) = true := beq_iff_eq.mpr c7
      have c7b1 : (t129 != 16) = false := bne_eq_false_iff_eq.mpr c7
      clear c7
      replace H := Option.bind_eq_some_iff.mp H
      obtain ⟨t130, A80, H⟩ := H
      replace H : (if t130 = 6 then (if (t121.length : Int) = 5 then (if 0 < (t121.length : Int) then (if (rd t121 0) = 1 then (if 4 < (t121.length : Int) then (if (rd t121 4) = 9 then (if (t124.length : Int) = 2 then (if 0 < (t124.length : Int) then (if (rd t124 0) = 1 then (if t127 = 2 then (if t128 = 1 then ((grid_Map_Walk.f t116 t117 t118 14).bind fun t134 => (if t134 = true then ((grid_Map_Walk.f t116 t117 t118 15).bind fun t135 => (some (!t135))) else (none))) else (none)) else (none)) else (none)) else (none)) else (none)) else (none)) else (none)) else (none)) else (none)) else (none)) else (none)) = some r := H
      have A8 := Aside0.mk A80
      clear A80
      by_cases c9 : t130 = 6
      · rw [if_pos c9] at H
        have c9b0 : (t130 == 6) = true := beq_iff_eq.mpr c9
        have c9b1 : (t130 != 6) = false := bne_eq_false_iff_eq.mpr c9
        clear c9
        by_cases c10 : (t121.length : Int) = 5
        · rw [if_pos c10] at H
          have c10b0 : ((t121.length : Int) == 5) = true := beq_iff_eq.mpr c10
          have c10b1 : ((t121.length : Int) != 5) = false := bne_eq_false_iff_eq.mpr c10
          clear c10
          by_cases c11 : 0 < (t121.length : Int)
          · rw [if_pos c11] at H
            have c11b0 : decide (0 < (t121.length : Int)) = true := decide_eq_true c11
            have c11b1 : decide (0 < t121.length) = true := decide_eq_true (by omega)
            clear c11
            by_cases c12 : (rd t121 0) = 1
            · rw [if_pos c12] at H
              have c12b0 : ((rd t121 0) == 1) = true := beq_iff_eq.mpr c12
              have c12b1 : ((rd t121 0) != 1) = false := bne_eq_false_iff_eq.mpr c12
              clear c12
              by_cases c13 : 4 < (t121.length : Int)
              · rw [if_pos c13] at H
                have c13b0 : decide (4 < (t121.length : Int)) = true := decide_eq_true c13
                have c13b1 : decide (4 < t121.length) = true := decide_eq_true (by omega)
                clear c13
                by_cases c14 : (rd t121 4) = 9
                · rw [if_pos c14] at H
                  have c14b0 : ((rd t121 4) == 9) = true := beq_iff_eq.mpr c14
                  have c14b1 : ((rd t121 4) != 9) = false := bne_eq_false_iff_eq.mpr c14
                  clear c14
                  by_cases c15 : (t124.length : Int) = 2
                  · rw [if_pos c15] at H
                    have c15b0 : ((t124.length : Int) == 2) = true := beq_iff_eq.mpr c15
                    have c15b1 : ((t124.length : Int) != 2) = false := bne_eq_false_iff_eq.mpr c15
                    clear c15
                    by_cases c16 : 0 < (t124.length : Int)
                    · rw [if_pos c16] at H
                      have c16b0 : decide (0 < (t124.length : Int)) = true := decide_eq_true c16
                      have c16b1 : decide (0 < t124.length) = true := decide_eq_true (by omega)
                      clear c16
                      by_cases c17 : (rd t124 0) = 1
                      · rw [if_pos c17] at H
                        have c17b0 : ((rd t124 0) == 1) = true := beq_iff_eq.mpr c17
                        have c17b1 : ((rd t124 0) != 1) = false := bne_eq_false_iff_eq.mpr c17
                        clear c17
                        by_cases c18 : t127 = 2
                        · rw [if_pos c18] at H
                          have c18b0 : (t127 == 2) = true := beq_iff_eq.mpr c18
                          have c18b1 : (t127 != 2) = false := bne_eq_false_iff_eq.mpr c18
                          clear c18
                          by_cases c19 : t128 = 1
                          · rw [if_pos c19] at H
                            have c19b0 : (t128 == 1) = true := beq_iff_eq.mpr c19
                            have c19b1 : (t128 != 1) = false := bne_eq_false_iff_eq.mpr c19
                            clear c19
                            replace H := Option.bind_eq_some_iff.mp H
                            obtain ⟨t134, A200, H⟩ := H
                            replace H : (if t134 = true then ((grid_Map_Walk.f t116 t117 t118 15).bind fun t135 => (some (!t135))) else (none)) = some r := H
                            have A20 := Aside0.mk A200
                            clear A200
                            by_cases c21 : t134 = true
                            · subst c21
                              have H1 : ((grid_Map_Walk.f t116 t117 t118 15).bind fun t135 => (some (!t135))) = some r := by rw [if_pos rfl] at H; exact H
                              clear H
                              have H := H1
                              clear H1
                              replace H := Option.bind_eq_some_iff.mp H
                              obtain ⟨t135, A220, H⟩ := H
                              replace H : (some (!t135)) = some r := H
                              have A22 := Aside0.mk A220
                              clear A220
                              obtain rfl := Option.some.inj H
                              go_enter Try.func38, Try.ntmps38
                              try go_wp2_with (first | ((with_reducible refine gate_callee (f := 32) rfl ?_); refine goesL_ (some 8) rfl rfl Try.func32 (by kernel_rfl) rfl #[.int .i64 4, .int .i64 4, .string (⟨#[0, 0, 0, 0, 0, 0, 0, 0, 0, 0, 0, 0, 0, 0, 0, 1]⟩ : ByteArray)] rfl (by (try simp only [List.map_toArray, List.map_cons, List.map_nil]); first | done | rfl | (simp only [List.length_drop, List.length_take]; rfl)) ?_; (with_reducible refine (grid_New.calls 4 4 (⟨#[0, 0, 0, 0, 0, 0, 0, 0, 0, 0, 0, 0, 0, 0, 0, 1]⟩ : ByteArray) t116 t117 t118 t119 _ A1.out).mono ?_); rintro e w23 ⟨rfl, hb⟩; refine ⟨_, rfl, ?_⟩; have n0_ := Aside0.mk (below_step (by repeat (first | (with_reducible first | exact HB.out | apply below_alloc | apply pw_below_drewN | apply below_drew1) | exact HB.out)) hb); clear HB; have HB := n0_; clear n0_; (try clear hb); (try clear hb2); (try clear hk); (try clear hi)) | ((with_reducible refine gate_dst (N := 1) rfl ?_); (try (refine gate_guard (by rfl) ?_; dsimp only)); refine box_event ?hg (N := 1) ?hd (cs := #[.int .i64 0, .int .i64 0, .string (⟨#[]⟩ : ByteArray)]) (t := 77) ?hr ?_; (case hd => rfl); (case hg => rfl); (case hr => first | (go_simp; done) | (go_simp; rfl)); intro gb120 hg w24 hbox hb; have n0_ := Aside0.mk (below_step (by repeat (first | (with_reducible first | exact HB.out | apply below_alloc | apply pw_below_drewN | apply below_drew1) | exact HB.out)) hb); have n1_ := Aside0.mk (hbox); have n2_ := Aside0.mk ((by rw [hg]; exact (below_size (by repeat (first | (with_reducible first | exact HB.out | apply below_alloc | apply pw_below_drewN | apply below_drew1) | exact HB.out))) : w.heap.size ≤ gb120)); have n3_ := Aside0.mk ((by rw [hg]; exact (below_size (by repeat (first | (with_reducible first | exact HB.out | apply below_alloc | apply pw_below_drewN | apply below_drew1) | exact HB.out))) : w.heap.size ≤ gb120)); clear HB; have HB := n0_; have BK120 := n1_; have GW120 := n2_; have GE120 := n3_; clear n0_ n1_ n2_ n3_; clear hb hbox hg; have hcz25_0 : w24.cell? ⟨gb120, 0, none⟩ = some (.int .i64 0) := (blk_cell BK120.out 0).trans rfl; have hcz25_1 : w24.cell? ⟨gb120, 1, none⟩ = some (.int .i64 0) := (blk_cell BK120.out 1).trans rfl; have hcz25_2 : w24.cell? ⟨gb120, 2, none⟩ = some (.string (⟨#[]⟩ : ByteArray)) := (blk_cell BK120.out 2).trans rfl; have hfz25_0 := blk_frozen BK120.out 0; have hfz25_1 := blk_frozen BK120.out 1; have hfz25_2 := blk_frozen BK120.out 2))
                              have n0_ : Aside0 ((((w24.setCell ⟨gb120, 0, none⟩ (.int .i64 t116)).setCell ⟨gb120, 1, none⟩ (.int .i64 t117)).setCell ⟨gb120, 2, none⟩ (.string t118)).heap[gb120]? = some (.cells #[.int .i64 t116, .int .i64 t117, .string t118] 77 (0, 0))) := ⟨by (with_reducible repeat (first | refine blk_drewN ?_ _ | refine blk_drew ?_ | refine blk_alloc ?_ _)); refine blk_put (cs := #[.int .i64 t116, .int .i64 t117, .string (⟨#[]⟩ : ByteArray)]) ?_ 2 _ rfl; (with_reducible repeat (first | refine blk_drewN ?_ _ | refine blk_drew ?_ | refine blk_alloc ?_ _)); refine blk_put (cs := #[.int .i64 t116, .int .i64 0, .string (⟨#[]⟩ : ByteArray)]) ?_ 1 _ rfl; (with_reducible repeat (first | refine blk_drewN ?_ _ | refine blk_drew ?_ | refine blk_alloc ?_ _)); refine blk_put (cs := #[.int .i64 0, .int .i64 0, .string (⟨#[]⟩ : ByteArray)]) ?_ 0 _ rfl; (with_reducible repeat (first | refine blk_drewN ?_ _ | refine blk_drew ?_ | refine blk_alloc ?_ _)); exact BK120.out⟩
                              have n1_ : Aside0 (Below w.heap.size w (((w24.setCell ⟨gb120, 0, none⟩ (.int .i64 t116)).setCell ⟨gb120, 1, none⟩ (.int .i64 t117)).setCell ⟨gb120, 2, none⟩ (.string t118))) := ⟨by repeat (first | (with_reducible first | exact HB.out | apply below_alloc | apply pw_below_drewN | apply below_drew1 | refine below_set ?_ GE120.out) | exact HB.out)⟩
                              (try clear BK120)
                              (try clear HB)
                              generalize (((w24.setCell ⟨gb120, 0, none⟩ (.int .i64 t116)).setCell ⟨gb120, 1, none⟩ (.int .i64 t117)).setCell ⟨gb120, 2, none⟩ (.string t118)) = w26 at n0_ n1_ ⊢
                              have BK120 := n0_
                              have HB := n1_
                              clear n0_ n1_
                              have n0_ := Aside0.mk (blk_drew BK120.out)
                              have n1_ := Aside0.mk (below_drew1 HB.out)
                              clear BK120
                              clear HB
                              have BK120 := n0_
                              have HB := n1_
                              clear n0_ n1_
                              refine start_ (n := 6) (S := fun w' => w'.cell? ⟨gb120, 0, none⟩ = some (.int .i64 t116) ∧ w'.cell? ⟨gb120, 1, none⟩ = some (.int .i64 t117) ∧ w'.cell? ⟨gb120, 2, none⟩ = some (.string t118)) (ds := []) #[false, false, false, false, false, false] (by kernel_rfl) rfl rfl ⟨(blk_cell BK120.out 0).trans rfl, (blk_cell BK120.out 1).trans rfl, (blk_cell BK120.out 2).trans rfl⟩ (fun hHeld => ?_)
                              generalize w26.drew = w27 at BK120 HB hHeld ⊢
                              refine take_ (i := 0) (N := some 11) (v := ?_) (a' := ?_) #[true, false, false, false, false, false] rfl rfl (by kernel_rfl) (fun _ _ _ h => h) (Or.inl ⟨by rfl, ?_⟩) hHeld ?_ ?_
                              rotate_left
                              · rintro w' ⟨s0, s1, s2⟩
                                go_simp
                                with_reducible rfl
                              rotate_left
                              · simp only [Act.put, List.setIfInBounds_toArray, List.set_cons_zero, List.set_cons_succ, i64_w, i32_w]
                                rfl
                              refine take_ (i := 2) (N := some 13) (v := ?_) (a' := ?_) #[true, false, true, false, false, false] rfl rfl (by kernel_rfl) (fun _ _ _ h => h) (Or.inl ⟨by rfl, ?_⟩) hHeld ?_ ?_
                              rotate_left
                              · rintro w' ⟨s0, s1, s2⟩
                                go_simp
                                with_reducible rfl
                              rotate_left
                              · simp only [Act.put, List.setIfInBounds_toArray, List.set_cons_zero, List.set_cons_succ, i64_w, i32_w]
                                rfl
                              refine one_ (i := 1) (N := some 12) #[true, true, true, false, false, false] rfl rfl (by kernel_rfl) (by decide) (fun K hK => ?_)
                              refine goes_ Try.func36 (by kernel_rfl) rfl #[.agg #[.int .i64 t116, .int .i64 t117, .string t118], .int .i64 5, .int .i64 1] (by rfl) rfl rfl (by (try simp only [List.map_toArray, List.map_cons, List.map_nil]); first | done | rfl | (simp only [List.length_drop, List.length_take]; rfl)) ?_
                              with_reducible refine (grid_Map_Around.calls t116 t117 t118 5 1 t121 _ A2.out).mono ?_
                              rintro e w28 ⟨v122, rfl, ho0, hb⟩
                              refine ⟨_, rfl, ?_⟩
                              have n0_ := Aside0.mk (Kd.R_lower ho0 (below_size (by repeat (first | (with_reducible first | exact HB.out | apply below_alloc | apply pw_below_drewN | apply below_drew1 | refine below_set ?_ GE120.out) | exact HB.out))))
                              have n1_ := Aside0.mk (blk_below (g := gb120) (o := .cells #[.int .i64 t116, .int .i64 t117, .string t118] 77 (0, 0)) (by (with_reducible repeat (first | refine blk_drewN ?_ _ | refine blk_drew ?_ | refine blk_alloc ?_ _)); exact BK120.out) hb)
                              have n2_ := Aside0.mk (below_step (by repeat (first | (with_reducible first | exact HB.out | apply below_alloc | apply pw_below_drewN | apply below_drew1 | refine below_set ?_ GE120.out) | exact HB.out)) hb)
                              clear BK120
                              clear HB
                              have HO123 := n0_
                              have BK120 := n1_
                              have HB := n2_
                              clear n0_ n1_ n2_
                              (try clear hb)
                              (try clear hb2)
                              (try clear hk)
                              (try clear hi)
                              (try clear ho0)
                              refine hK.out _ _ ⟨(blk_cell BK120.out 0).trans rfl, (blk_cell BK120.out 1).trans rfl, (blk_cell BK120.out 2).trans rfl⟩ (fun hHeld => ?_)
                              clear hK K
                              refine norm_ (a' := ?_) ?_ ?_
                              rotate_left
                              · show Act.put _ (some 12) _ = _
                                simp only [Act.put, List.setIfInBounds_toArray, List.set_cons_zero, List.set_cons_succ, i64_w, i32_w]
                                rfl
                              refine one_ (i := 3) (N := some 14) #[true, true, true, true, false, false] rfl rfl (by kernel_rfl) (by decide) (fun K hK => ?_)
                              refine goes_ Try.func34 (by kernel_rfl) rfl #[.agg #[.int .i64 t116, .int .i64 t117, .string t118], .int .i64 0] (by rfl) rfl rfl (by (try simp only [List.map_toArray, List.map_cons, List.map_nil]); first | done | rfl | (simp only [List.length_drop, List.length_take]; rfl)) ?_
                              with_reducible refine (grid_Map_Next.calls t116 t117 t118 0 t124 _ A3.out).mono ?_
                              rintro e w29 ⟨v125, rfl, ho0, hb⟩
                              refine ⟨_, rfl, ?_⟩
                              have n0_ := Aside0.mk (Kd.R_elder' (by (with_reducible repeat (first | apply Kd.R_alloc | apply Kd.R_drewN | apply Kd.R_drew)); exact HO123.out) (Kd.R_base ho0) hb)
                              have n1_ := Aside0.mk (Kd.R_lower (Kd.R_new' ho0 (Kd.R_lt (by (with_reducible repeat (first | apply Kd.R_alloc | apply Kd.R_drewN | apply Kd.R_drew)); exact HO123.out))) (below_size (by repeat (first | (with_reducible first | exact HB.out | apply below_alloc | apply pw_below_drewN | apply below_drew1 | refine below_set ?_ GE120.out) | exact HB.out))))
                              have n2_ := Aside0.mk (blk_below (g := gb120) (o := .cells #[.int .i64 t116, .int .i64 t117, .string t118] 77 (0, 0)) (by (with_reducible repeat (first | refine blk_drewN ?_ _ | refine blk_drew ?_ | refine blk_alloc ?_ _)); exact BK120.out) hb)
                              have n3_ := Aside0.mk (below_step (by repeat (first | (with_reducible first | exact HB.out | apply below_alloc | apply pw_below_drewN | apply below_drew1 | refine below_set ?_ GE120.out) | exact HB.out)) hb)
                              clear HO123
                              clear BK120
                              clear HB
                              have HO123 := n0_
                              have HO126 := n1_
                              have BK120 := n2_
                              have HB := n3_
                              clear n0_ n1_ n2_ n3_
                              (try clear hb)
                              (try clear hb2)
                              (try clear hk)
                              (try clear hi)
                              (try clear ho0)
                              refine hK.out _ _ ⟨(blk_cell BK120.out 0).trans rfl, (blk_cell BK120.out 1).trans rfl, (blk_cell BK120.out 2).trans rfl⟩ (fun hHeld => ?_)
                              clear hK K
                              refine norm_ (a' := ?_) ?_ ?_
                              rotate_left
                              · show Act.put _ (some 14) _ = _
                                simp only [Act.put, List.setIfInBounds_toArray, List.set_cons_zero, List.set_cons_succ, i64_w, i32_w]
                                rfl
                              refine pure_ (i := 4) (N := some 3) (v := ?_) (a' := ?_) #[true, true, true, true, true, false] rfl rfl (by kernel_rfl) (fun _ _ _ h => h) (Or.inl ⟨by rfl, ?_⟩) ?_ ?_
                              rotate_left
                              · intro w'
                                go_simp
                                with_reducible rfl
                              rotate_left
                              · simp only [Act.put, List.setIfInBounds_toArray, List.set_cons_zero, List.set_cons_succ, i64_w, i32_w]
                                rfl
                              refine pure_ (i := 5) (N := some 4) (v := ?_) (a' := ?_) #[true, true, true, true, true, true] rfl rfl (by kernel_rfl) (fun _ _ _ h => h) (Or.inl ⟨by rfl, ?_⟩) ?_ ?_
                              rotate_left
                              · intro w'
                                go_simp
                                with_reducible rfl
                              rotate_left
                              · simp only [Act.put, List.setIfInBounds_toArray, List.set_cons_zero, List.set_cons_succ, i64_w, i32_w]
                                rfl
                              refine done_ (by kernel_rfl) ?_
                              have hcz30_0 : w29.cell? ⟨gb120, 0, none⟩ = some (.int .i64 t116) := (blk_cell BK120.out 0).trans rfl
                              have hcz30_1 : w29.cell? ⟨gb120, 1, none⟩ = some (.int .i64 t117) := (blk_cell BK120.out 1).trans rfl
                              have hcz30_2 : w29.cell? ⟨gb120, 2, none⟩ = some (.string t118) := (blk_cell BK120.out 2).trans rfl
                              have hfz30_0 := blk_frozen BK120.out 0
                              have hfz30_1 := blk_frozen BK120.out 1
                              have hfz30_2 := blk_frozen BK120.out 2
                              try go_wp2_with (first | ((with_reducible refine gate_callee (f := 47) rfl ?_); refine goesL_ (some 17) rfl rfl Try.func47 (by kernel_rfl) rfl #[.agg #[.int .i64 t116, .int .i64 t117, .string t118], .int .i64 6] rfl (by (try simp only [List.map_toArray, List.map_cons, List.map_nil]); first | done | rfl | (simp only [List.length_drop, List.length_take]; rfl)) ?_; (with_reducible refine (grid_Map_XY.calls t116 t117 t118 6 t127 t128 _ A4.out).mono ?_); rintro e w31 ⟨rfl, hb⟩; refine ⟨_, rfl, ?_⟩; have n0_ := Aside0.mk (Kd.R_below (by (with_reducible repeat (first | apply Kd.R_alloc | apply Kd.R_drewN | apply Kd.R_drew)); exact HO123.out) hb); have n1_ := Aside0.mk (Kd.R_below (by (with_reducible repeat (first | apply Kd.R_alloc | apply Kd.R_drewN | apply Kd.R_drew)); exact HO126.out) hb); have n2_ := Aside0.mk (blk_below (g := gb120) (o := .cells #[.int .i64 t116, .int .i64 t117, .string t118] 77 (0, 0)) (by (with_reducible repeat (first | refine blk_drewN ?_ _ | refine blk_drew ?_ | refine blk_alloc ?_ _)); exact BK120.out) hb); have n3_ := Aside0.mk (below_step (by repeat (first | (with_reducible first | exact HB.out | apply below_alloc | apply pw_below_drewN | apply below_drew1 | refine below_set ?_ GE120.out) | exact HB.out)) hb); clear HO123; clear HO126; clear BK120; clear HB; have HO123 := n0_; have HO126 := n1_; have BK120 := n2_; have HB := n3_; clear n0_ n1_ n2_ n3_; (try clear hb); (try clear hb2); (try clear hk); (try clear hi); have hcz32_0 : w31.cell? ⟨gb120, 0, none⟩ = some (.int .i64 t116) := (blk_cell BK120.out 0).trans rfl; have hcz32_1 : w31.cell? ⟨gb120, 1, none⟩ = some (.int .i64 t117) := (blk_cell BK120.out 1).trans rfl; have hcz32_2 : w31.cell? ⟨gb120, 2, none⟩ = some (.string t118) := (blk_cell BK120.out 2).trans rfl; have hfz32_0 := blk_frozen BK120.out 0; have hfz32_1 := blk_frozen BK120.out 1; have hfz32_2 := blk_frozen BK120.out 2) | (go_at_call 33; (with_reducible refine (grid_Map_Len.calls t116 t117 t118 t129 _ A6.out).mono ?_); rintro e w33 ⟨rfl, hb⟩; have n0_ := Aside0.mk (Kd.R_below (by (with_reducible repeat (first | apply Kd.R_alloc | apply Kd.R_drewN | apply Kd.R_drew)); exact HO123.out) hb); have n1_ := Aside0.mk (Kd.R_below (by (with_reducible repeat (first | apply Kd.R_alloc | apply Kd.R_drewN | apply Kd.R_drew)); exact HO126.out) hb); have n2_ := Aside0.mk (blk_below (g := gb120) (o := .cells #[.int .i64 t116, .int .i64 t117, .string t118] 77 (0, 0)) (by (with_reducible repeat (first | refine blk_drewN ?_ _ | refine blk_drew ?_ | refine blk_alloc ?_ _)); exact BK120.out) hb); have n3_ := Aside0.mk (below_step (by repeat (first | (with_reducible first | exact HB.out | apply below_alloc | apply pw_below_drewN | apply below_drew1 | refine below_set ?_ GE120.out) | exact HB.out)) hb); clear HO123; clear HO126; clear BK120; clear HB; have HO123 := n0_; have HO126 := n1_; have BK120 := n2_; have HB := n3_; clear n0_ n1_ n2_ n3_; (try clear hb); (try clear hb2); (try clear hk); (try clear hi); have hcz34_0 : w33.cell? ⟨gb120, 0, none⟩ = some (.int .i64 t116) := (blk_cell BK120.out 0).trans rfl; have hcz34_1 : w33.cell? ⟨gb120, 1, none⟩ = some (.int .i64 t117) := (blk_cell BK120.out 1).trans rfl; have hcz34_2 : w33.cell? ⟨gb120, 2, none⟩ = some (.string t118) := (blk_cell BK120.out 2).trans rfl; have hfz34_0 := blk_frozen BK120.out 0; have hfz34_1 := blk_frozen BK120.out 1; have hfz34_2 := blk_frozen BK120.out 2) | (go_at_call 37; (with_reducible refine (grid_Map_Far.calls k t116 t117 t118 0 15 t130 _ A8.out).mono ?_); rintro e w35 ⟨rfl, hb⟩; have n0_ := Aside0.mk (Kd.R_below (by (with_reducible repeat (first | apply Kd.R_alloc | apply Kd.R_drewN | apply Kd.R_drew)); exact HO123.out) hb); have n1_ := Aside0.mk (Kd.R_below (by (with_reducible repeat (first | apply Kd.R_alloc | apply Kd.R_drewN | apply Kd.R_drew)); exact HO126.out) hb); have n2_ := Aside0.mk (blk_below (g := gb120) (o := .cells #[.int .i64 t116, .int .i64 t117, .string t118] 77 (0, 0)) (by (with_reducible repeat (first | refine blk_drewN ?_ _ | refine blk_drew ?_ | refine blk_alloc ?_ _)); exact BK120.out) hb); have n3_ := Aside0.mk (below_step (by repeat (first | (with_reducible first | exact HB.out | apply below_alloc | apply pw_below_drewN | apply below_drew1 | refine below_set ?_ GE120.out) | exact HB.out)) hb); clear HO123; clear HO126; clear BK120; clear HB; have HO123 := n0_; have HO126 := n1_; have BK120 := n2_; have HB := n3_; clear n0_ n1_ n2_ n3_; (try clear hb); (try clear hb2); (try clear hk); (try clear hi); obtain ⟨Ao36, co36, eo36⟩ := Kd.R_slice HO123.out; subst eo36; have p131 : 0 ≤ (0 : Int) := (by omega); have q131 : 0 < (t121.length : Int) := of_decide_eq_true (by first | (with_reducible assumption) | assumption); obtain ⟨ad131, e131, hx131_0⟩ := Kd.at_int (Kd.R_reads' HO123.out).2.2 0 p131 q131; cases e131; have qi131 : (0 < t121.length) = True := eq_true (by omega); (try rw [show ((0 : Int)).toNat = 0 from rfl] at hx131_0); (try rw [Addr.add_zero'] at hx131_0); replace p131 := eq_true p131; replace q131 := eq_true q131; have p132 : 0 ≤ (4 : Int) := (by omega); have q132 : 4 < (t121.length : Int) := of_decide_eq_true (by first | (with_reducible assumption) | assumption); obtain ⟨ad132, e132, hx132_0⟩ := Kd.at_int (Kd.R_reads' HO123.out).2.2 4 p132 q132; obtain rfl : ad131 = ad132 := (by injection e132); (try simp only [show (4 : Int).toNat = 4 from rfl, Nat.reduceMul, Nat.reduceEqDiff, Go.Addr.add, ↓reduceIte] at hx132_0); have qi132 : (4 < t121.length) = True := eq_true (by omega); (try rw [show ((4 : Int)).toNat = 4 from rfl] at hx132_0); replace p132 := eq_true p132; replace q132 := eq_true q132; obtain ⟨Ao37, co37, eo37⟩ := Kd.R_slice HO126.out; subst eo37; have p133 : 0 ≤ (0 : Int) := (by omega); have q133 : 0 < (t124.length : Int) := of_decide_eq_true (by first | (with_reducible assumption) | assumption); obtain ⟨ad133, e133, hx133_0⟩ := Kd.at_int (Kd.R_reads' HO126.out).2.2 0 p133 q133; cases e133; have qi133 : (0 < t124.length) = True := eq_true (by omega); (try rw [show ((0 : Int)).toNat = 0 from rfl] at hx133_0); (try rw [Addr.add_zero'] at hx133_0); replace p133 := eq_true p133; replace q133 := eq_true q133; have hcz38_0 : w35.cell? ⟨gb120, 0, none⟩ = some (.int .i64 t116) := (blk_cell BK120.out 0).trans rfl; have hcz38_1 : w35.cell? ⟨gb120, 1, none⟩ = some (.int .i64 t117) := (blk_cell BK120.out 1).trans rfl; have hcz38_2 : w35.cell? ⟨gb120, 2, none⟩ = some (.string t118) := (blk_cell BK120.out 2).trans rfl; have hfz38_0 := blk_frozen BK120.out 0; have hfz38_1 := blk_frozen BK120.out 1; have hfz38_2 := blk_frozen BK120.out 2) | (go_at_call 49; (with_reducible refine (grid_Map_Walk.calls t116 t117 t118 14 true _ A20.out).mono ?_); rintro e w39 ⟨rfl, hb⟩; have n0_ := Aside0.mk (Kd.R_below (by (with_reducible repeat (first | apply Kd.R_alloc | apply Kd.R_drewN | apply Kd.R_drew)); exact HO123.out) hb); have n1_ := Aside0.mk (Kd.R_below (by (with_reducible repeat (first | apply Kd.R_alloc | apply Kd.R_drewN | apply Kd.R_drew)); exact HO126.out) hb); have n2_ := Aside0.mk (blk_below (g := gb120) (o := .cells #[.int .i64 t116, .int .i64 t117, .string t118] 77 (0, 0)) (by (with_reducible repeat (first | refine blk_drewN ?_ _ | refine blk_drew ?_ | refine blk_alloc ?_ _)); exact BK120.out) hb); have n3_ := Aside0.mk (below_step (by repeat (first | (with_reducible first | exact HB.out | apply below_alloc | apply pw_below_drewN | apply below_drew1 | refine below_set ?_ GE120.out) | exact HB.out)) hb); clear HO123; clear HO126; clear BK120; clear HB; have HO123 := n0_; have HO126 := n1_; have BK120 := n2_; have HB := n3_; clear n0_ n1_ n2_ n3_; (try clear hb); (try clear hb2); (try clear hk); (try clear hi); have hcz40_0 : w39.cell? ⟨gb120, 0, none⟩ = some (.int .i64 t116) := (blk_cell BK120.out 0).trans rfl; have hcz40_1 : w39.cell? ⟨gb120, 1, none⟩ = some (.int .i64 t117) := (blk_cell BK120.out 1).trans rfl; have hcz40_2 : w39.cell? ⟨gb120, 2, none⟩ = some (.string t118) := (blk_cell BK120.out 2).trans rfl; have hfz40_0 := blk_frozen BK120.out 0; have hfz40_1 := blk_frozen BK120.out 1; have hfz40_2 := blk_frozen BK120.out 2) | (go_at_call 49; (with_reducible refine (grid_Map_Walk.calls t116 t117 t118 15 t135 _ A22.out).mono ?_); rintro e w41 ⟨rfl, hb⟩; have n0_ := Aside0.mk (Kd.R_below (by (with_reducible repeat (first | apply Kd.R_alloc | apply Kd.R_drewN | apply Kd.R_drew)); exact HO123.out) hb); have n1_ := Aside0.mk (Kd.R_below (by (with_reducible repeat (first | apply Kd.R_alloc | apply Kd.R_drewN | apply Kd.R_drew)); exact HO126.out) hb); have n2_ := Aside0.mk (blk_below (g := gb120) (o := .cells #[.int .i64 t116, .int .i64 t117, .string t118] 77 (0, 0)) (by (with_reducible repeat (first | refine blk_drewN ?_ _ | refine blk_drew ?_ | refine blk_alloc ?_ _)); exact BK120.out) hb); have n3_ := Aside0.mk (below_step (by repeat (first | (with_reducible first | exact HB.out | apply below_alloc | apply pw_below_drewN | apply below_drew1 | refine below_set ?_ GE120.out) | exact HB.out)) hb); clear HO123; clear HO126; clear BK120; clear HB; have HO123 := n0_; have HO126 := n1_; have BK120 := n2_; have HB := n3_; clear n0_ n1_ n2_ n3_; (try clear hb); (try clear hb2); (try clear hk); (try clear hi)))
                              go_ret
                              exact ⟨by first | rfl | (simp [errW_none, errW_some] <;> rfl) | (simp [*, errW_none, errW_some] <;> rfl), by repeat (first | (with_reducible first | exact HB.out | apply below_alloc | apply pw_below_drewN | apply below_drew1 | refine below_set ?_ GE120.out) | exact HB.out)⟩
                            · replace c21 := Bool.eq_false_iff.mpr c21
                              subst c21
                              have H1 : (none) = some r := by rw [if_neg (show ¬ (false = true) by decide)] at H; exact H
                              clear H
                              have H := H1
                              clear H1
                              exact absurd H (by simp)
                          · rw [if_neg c19] at H
                            exact absurd H (by simp)
                        · rw [if_neg c18] at H
                          exact absurd H (by simp)
                      · rw [if_neg c17] at H
                        exact absurd H (by simp)
                    · rw [if_neg c16] at H
                      exact absurd H (by simp)
                  · rw [if_neg c15] at H
                    exact absurd H (by simp)
                · rw [if_neg c14] at H
                  exact absurd H (by simp)
              · rw [if_neg c13] at H
                exact absurd H (by simp)
            · rw [if_neg c12] at H
              exact absurd H (by simp)
          · rw [if_neg c11] at H
            exact absurd H (by simp)
        · rw [if_neg c10] at H
          exact absurd H (by simp)
      · rw [if_neg c9] at H
        exact absurd H (by simp)
    · rw [if_neg c7] at H
      exact absurd H (by simp)
  · rw [if_neg c5] at H
    exact absurd H (by simp)

end Go.Proofs.Ytfdbibddhneklab.PGridSteps
