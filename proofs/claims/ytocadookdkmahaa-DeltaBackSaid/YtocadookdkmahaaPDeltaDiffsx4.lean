-- by a program of ours (the kit's print, turned, and hand texts beside it), out of the translation; not trusted: Lean checks it
import Derived.Test.YtocadookdkmahaaPDeltaDiffsx0
import Derived.Test.YtocadookdkmahaaPDeltaDiffsx2
import Derived.Test.YtocadookdkmahaaPDeltaDiffsx3
namespace Go.Proofs.Ytocadookdkmahaa.PDeltaDiffs
open Go.RowKit Go.Proofs.YtocadookdkmahaaW.PrintWords Go.Proofs.YtocadookdkmahaaW.PrintLast Go.Proofs.YtocadookdkmahaaW.PrintMore
attribute [local go_sem] max2_int min2_int max_two min_two max_three min_three max_four min_four   -- for this text's walks alone
set_option linter.unusedVariables false
set_option linter.unusedSimpArgs false

/-! ### rematchref03_Diff: function 10 -/
mutual
def rematchref03_Diff.l0 : Nat → ByteArray → ByteArray → Int → Option (ByteArray)
  | 0, _, _, _ => none
  | k + 1, x5, x6, x7 => (rematchref03_zero.f k x5 x7 (x5.size : Int)).bind fun t175 => (if t175 = true then (some x6) else (rematchref03_Diff.l1 k x5 x6 x7 x7))
def rematchref03_Diff.l1 : Nat → ByteArray → ByteArray → Int → Int → Option (ByteArray)
  | 0, _, _, _, _ => none
  | k + 1, x5, x6, x7, x8 => if 0 ≤ x8 then (if x8 < (x5.size : Int) then (if (bt x5 x8) = 0 then (rematchref03_Diff.l1 k x5 x6 x7 (wrap64 (x8 + 1))) else (rematchref03_Diff.l2 k x5 x6 x7 x8 x8)) else (none)) else (none)
def rematchref03_Diff.l2 : Nat → ByteArray → ByteArray → Int → Int → Int → Option (ByteArray)
  | 0, _, _, _, _, _ => none
  | k + 1, x5, x6, x7, x8, x9 => if x9 < (x5.size : Int) then ((rematchref03_zero.f k x5 x9 4).bind fun t176 => (if t176 = true then (if ((wrap64 (x9 + 4)) ≤ (x5.size : Int)) then ((rematchref01_Varint.f k (IntKind.u64.wrap (wrap64 (x8 - x7)))).bind fun t177 => (if x6.size + t177.size ≤ 9223372036854775807 then ((rematchref01_Varint.f k (IntKind.u64.wrap (wrap64 (x9 - x8)))).bind fun t178 => (if (x6 ++ t177).size + t178.size ≤ 9223372036854775807 then (if 0 ≤ x8 then (if x8 ≤ x9 then (if x9 ≤ (x5.size : Int) then (if ((x6 ++ t177) ++ t178).size + (x5.extract (x8 : Int).toNat (x9 : Int).toNat).size ≤ 9223372036854775807 then (rematchref03_Diff.l0 k x5 (((x6 ++ t177) ++ t178) ++ (x5.extract (x8 : Int).toNat (x9 : Int).toNat)) x9) else (none)) else (none)) else (none)) else (none)) else (none))) else (none))) else ((rematchref03_zero.f k x5 x9 (x5.size : Int)).bind fun t179 => (if t179 = true then ((rematchref01_Varint.f k (IntKind.u64.wrap (wrap64 (x8 - x7)))).bind fun t180 => (if x6.size + t180.size ≤ 9223372036854775807 then ((rematchref01_Varint.f k (IntKind.u64.wrap (wrap64 (x9 - x8)))).bind fun t181 => (if (x6 ++ t180).size + t181.size ≤ 9223372036854775807 then (if 0 ≤ x8 then (if x8 ≤ x9 then (if x9 ≤ (x5.size : Int) then (if ((x6 ++ t180) ++ t181).size + (x5.extract (x8 : Int).toNat (x9 : Int).toNat).size ≤ 9223372036854775807 then (rematchref03_Diff.l0 k x5 (((x6 ++ t180) ++ t181) ++ (x5.extract (x8 : Int).toNat (x9 : Int).toNat)) x9) else (none)) else (none)) else (none)) else (none)) else (none))) else (none))) else (rematchref03_Diff.l2 k x5 x6 x7 x8 (wrap64 (x9 + 1)))))) else ((rematchref03_zero.f k x5 x9 (x5.size : Int)).bind fun t182 => (if t182 = true then ((rematchref01_Varint.f k (IntKind.u64.wrap (wrap64 (x8 - x7)))).bind fun t183 => (if x6.size + t183.size ≤ 9223372036854775807 then ((rematchref01_Varint.f k (IntKind.u64.wrap (wrap64 (x9 - x8)))).bind fun t184 => (if (x6 ++ t183).size + t184.size ≤ 9223372036854775807 then (if 0 ≤ x8 then (if x8 ≤ x9 then (if x9 ≤ (x5.size : Int) then (if ((x6 ++ t183) ++ t184).size + (x5.extract (x8 : Int).toNat (x9 : Int).toNat).size ≤ 9223372036854775807 then (rematchref03_Diff.l0 k x5 (((x6 ++ t183) ++ t184) ++ (x5.extract (x8 : Int).toNat (x9 : Int).toNat)) x9) else (none)) else (none)) else (none)) else (none)) else (none))) else (none))) else (rematchref03_Diff.l2 k x5 x6 x7 x8 (wrap64 (x9 + 1))))))) else ((rematchref01_Varint.f k (IntKind.u64.wrap (wrap64 (x8 - x7)))).bind fun t185 => (if x6.size + t185.size ≤ 9223372036854775807 then ((rematchref01_Varint.f k (IntKind.u64.wrap (wrap64 (x9 - x8)))).bind fun t186 => (if (x6 ++ t185).size + t186.size ≤ 9223372036854775807 then (if 0 ≤ x8 then (if x8 ≤ x9 then (if x9 ≤ (x5.size : Int) then (if ((x6 ++ t185) ++ t186).size + (x5.extract (x8 : Int).toNat (x9 : Int).toNat).size ≤ 9223372036854775807 then (rematchref03_Diff.l0 k x5 (((x6 ++ t185) ++ t186) ++ (x5.extract (x8 : Int).toNat (x9 : Int).toNat)) x9) else (none)) else (none)) else (none)) else (none)) else (none))) else (none)))
end
def rematchref03_Diff.f (k : Nat) (a0 : ByteArray) (a1 : ByteArray) : Option (ByteArray) := (rematchref03_Mix.f k a0 a1).bind fun t173 => ((rematchref01_Varint.f k (IntKind.u64.wrap ((a1.size : Int)))).bind fun t174 => (rematchref03_Diff.l0 k t173 t174 0))
theorem rematchref03_Diff.mono_l : ∀ k, (∀ y0 y1 y2, LeO (rematchref03_Diff.l0 k y0 y1 y2) (rematchref03_Diff.l0 (k + 1) y0 y1 y2)) ∧ (∀ y0 y1 y2 y3, LeO (rematchref03_Diff.l1 k y0 y1 y2 y3) (rematchref03_Diff.l1 (k + 1) y0 y1 y2 y3)) ∧ (∀ y0 y1 y2 y3 y4, LeO (rematchref03_Diff.l2 k y0 y1 y2 y3 y4) (rematchref03_Diff.l2 (k + 1) y0 y1 y2 y3 y4))
  | 0 => ⟨fun _ _ _ r h => by simp [rematchref03_Diff.l0] at h, fun _ _ _ _ r h => by simp [rematchref03_Diff.l1] at h, fun _ _ _ _ _ r h => by simp [rematchref03_Diff.l2] at h⟩
  | k + 1 => by
    obtain ⟨ih0, ih1, ih2⟩ := rematchref03_Diff.mono_l k
    refine ⟨?_, ?_, ?_⟩
    · intro y0 y1 y2
      unfold rematchref03_Diff.l0
      repeat' first
      | (with_reducible exact ih0 _ _ _)
      | (with_reducible exact ih1 _ _ _ _)
      | (with_reducible exact ih2 _ _ _ _ _)
      | (with_reducible exact rematchref01_Varint.mono _ _)
      | (with_reducible exact rematchref03_Mix.mono _ _ _)
      | (with_reducible exact rematchref03_zero.mono _ _ _ _)
      | (with_reducible exact LeO.refl _)
      | (with_reducible exact LeO.none _)
      | (with_reducible refine LeO.ite ?_ ?_)
      | (with_reducible refine LeO.bind ?_ (fun _ => ?_))
      | exact ih0 _ _ _
      | exact ih1 _ _ _ _
      | exact ih2 _ _ _ _ _
      | exact rematchref01_Varint.mono _ _
      | exact rematchref03_Mix.mono _ _ _
      | exact rematchref03_zero.mono _ _ _ _
      | exact LeO.none _
      | refine LeO.ite ?_ ?_
      | refine LeO.bind ?_ (fun _ => ?_)
    · intro y0 y1 y2 y3
      unfold rematchref03_Diff.l1
      repeat' first
      | (with_reducible exact ih0 _ _ _)
      | (with_reducible exact ih1 _ _ _ _)
      | (with_reducible exact ih2 _ _ _ _ _)
      | (with_reducible exact rematchref01_Varint.mono _ _)
      | (with_reducible exact rematchref03_Mix.mono _ _ _)
      | (with_reducible exact rematchref03_zero.mono _ _ _ _)
      | (with_reducible exact LeO.refl _)
      | (with_reducible exact LeO.none _)
      | (with_reducible refine LeO.ite ?_ ?_)
      | (with_reducible refine LeO.bind ?_ (fun _ => ?_))
      | exact ih0 _ _ _
      | exact ih1 _ _ _ _
      | exact ih2 _ _ _ _ _
      | exact rematchref01_Varint.mono _ _
      | exact rematchref03_Mix.mono _ _ _
      | exact rematchref03_zero.mono _ _ _ _
      | exact LeO.none _
      | refine LeO.ite ?_ ?_
      | refine LeO.bind ?_ (fun _ => ?_)
    · intro y0 y1 y2 y3 y4
      unfold rematchref03_Diff.l2
      repeat' first
      | (with_reducible exact ih0 _ _ _)
      | (with_reducible exact ih1 _ _ _ _)
      | (with_reducible exact ih2 _ _ _ _ _)
      | (with_reducible exact rematchref01_Varint.mono _ _)
      | (with_reducible exact rematchref03_Mix.mono _ _ _)
      | (with_reducible exact rematchref03_zero.mono _ _ _ _)
      | (with_reducible exact LeO.refl _)
      | (with_reducible exact LeO.none _)
      | (with_reducible refine LeO.ite ?_ ?_)
      | (with_reducible refine LeO.bind ?_ (fun _ => ?_))
      | exact ih0 _ _ _
      | exact ih1 _ _ _ _
      | exact ih2 _ _ _ _ _
      | exact rematchref01_Varint.mono _ _
      | exact rematchref03_Mix.mono _ _ _
      | exact rematchref03_zero.mono _ _ _ _
      | exact LeO.none _
      | refine LeO.ite ?_ ?_
      | refine LeO.bind ?_ (fun _ => ?_)
theorem rematchref03_Diff.mono : ∀ a0 a1 k, LeO (rematchref03_Diff.f k a0 a1) (rematchref03_Diff.f (k + 1) a0 a1) := by
  intro a0 a1 k
  obtain ⟨ih0, ih1, ih2⟩ := rematchref03_Diff.mono_l k
  unfold rematchref03_Diff.f
  repeat' first
      | (with_reducible exact ih0 _ _ _)
      | (with_reducible exact ih1 _ _ _ _)
      | (with_reducible exact ih2 _ _ _ _ _)
      | (with_reducible exact rematchref01_Varint.mono _ _)
      | (with_reducible exact rematchref03_Mix.mono _ _ _)
      | (with_reducible exact rematchref03_zero.mono _ _ _ _)
      | (with_reducible exact LeO.refl _)
      | (with_reducible exact LeO.none _)
      | (with_reducible refine LeO.ite ?_ ?_)
      | (with_reducible refine LeO.bind ?_ (fun _ => ?_))
      | exact ih0 _ _ _
      | exact ih1 _ _ _ _
      | exact ih2 _ _ _ _ _
      | exact rematchref01_Varint.mono _ _
      | exact rematchref03_Mix.mono _ _ _
      | exact rematchref03_zero.mono _ _ _ _
      | exact LeO.none _
      | refine LeO.ite ?_ ?_
      | refine LeO.bind ?_ (fun _ => ?_)
def rematchref03_Diff.T11 : Bool × List (List Nat × List Nat) := (true, [([], []), ([], []), ([], []), ([1, 2], [1, 2]), ([3], [3]), ([4], [4]), ([0, 5], [0, 5]), ([], []), ([], []), ([7, 8], [7, 8]), ([9], [9]), ([10, 5], [10]), ([6, 11], [6, 11]), ([], []), ([], []), ([], []), ([13, 14, 15], [13, 14, 15]), ([12, 16], [12, 16]), ([17, 11, 0, 1, 2, 3, 4, 5, 6, 7, 8, 9, 10, 11, 12, 13, 14, 15, 16, 17], [0, 17])])
def rematchref03_Diff.B11 : List Nat := [0, 0, 0, 6, 14, 30, 63, 0, 0, 384, 896, 1982, 4095, 0, 0, 0, 57344, 131071, 262143]
theorem rematchref03_Diff.tab11 : rtab .any (opsOf Try.f10 11) = rematchref03_Diff.T11 := by kernel_rfl
theorem rematchref03_Diff.bits11 : waitsOk rematchref03_Diff.T11.2 rematchref03_Diff.B11 = true := by kernel_rfl
set_option maxHeartbeats 8000000 in
set_option maxRecDepth 100000 in
theorem rematchref03_Diff.calls (k : Nat) (a0 : ByteArray) (a1 : ByteArray) (r : ByteArray) (w : World) (h : rematchref03_Diff.f k a0 a1 = some r) :
    Calls Try.prog 10 #[.string a0, .string a1] w fun e w' => e = .returned (.string r) ∧ Below w.heap.size w w' := by
  have HB := Aside0.mk (Below.refl w.heap.size w)
  have H : ((rematchref03_Mix.f k a0 a1).bind fun t173 => ((rematchref01_Varint.f k (IntKind.u64.wrap ((a1.size : Int)))).bind fun t174 => (rematchref03_Diff.l0 k t173 t174 0))) = some r := h
  clear h
  replace H := Option.bind_eq_some_iff.mp H
  obtain ⟨t173, A30, H⟩ := H
  replace H : ((rematchref01_Varint.f k (IntKind.u64.wrap ((a1.size : Int)))).bind fun t174 => (rematchref03_Diff.l0 k t173 t174 0)) = some r := H
  have A3 := Aside0.mk A30
  clear A30
  replace H := Option.bind_eq_some_iff.mp H
  obtain ⟨t174, A40, H⟩ := H
  replace H : (rematchref03_Diff.l0 k t173 t174 0) = some r := H
  have A4 := Aside0.mk A40
  clear A40
  have H' := Aside0.mk H
  clear H
  go_enter Try.func10, Try.ntmps10
  go_wp2_with (first | ((with_reducible refine gate_callee (f := 21) rfl ?_); refine goesL_ (some 12) rfl rfl Try.func21 (by kernel_rfl) rfl #[.string a0, .string a1] rfl (by (try simp only [List.map_toArray, List.map_cons, List.map_nil]); first | done | rfl | (simp only [List.length_drop, List.length_take]; rfl)) ?_; (with_reducible refine (rematchref03_Mix.calls k a0 a1 t173 _ A3.out).mono ?_); rintro e w5 ⟨rfl, hb⟩; refine ⟨_, rfl, ?_⟩; have n0_ := Aside0.mk (below_step (by repeat (first | (with_reducible first | exact HB.out | apply below_alloc | apply pw_below_drewN | apply below_drew1) | exact HB.out)) hb); clear HB; have HB := n0_; clear n0_; (try clear hb); (try clear hb2); (try clear hk); (try clear hi)) | ((with_reducible refine gate_callee (f := 22) rfl ?_); refine goesL_ (some 16) rfl rfl Try.func22 (by kernel_rfl) rfl #[.int .u64 (IntKind.u64.wrap ((a1.size : Int)))] rfl (by (try simp only [List.map_toArray, List.map_cons, List.map_nil]); first | done | rfl | (simp only [List.length_drop, List.length_take]; rfl)) ?_; (with_reducible refine (rematchref01_Varint.calls k (IntKind.u64.wrap ((a1.size : Int))) t174 _ A4.out).mono ?_); rintro e w6 ⟨rfl, hb⟩; refine ⟨_, rfl, ?_⟩; have n0_ := Aside0.mk (below_step (by repeat (first | (with_reducible first | exact HB.out | apply below_alloc | apply pw_below_drewN | apply below_drew1) | exact HB.out)) hb); clear HB; have HB := n0_; clear n0_; (try clear hb); (try clear hb2); (try clear hk); (try clear hi)))
  go_loopg [6, 7] k (fun kq v6 v7 w' => ∃ (x6_1 : ByteArray) (x7_1 : Int), v6 = .string x6_1 ∧ v7 = .int .i64 x7_1 ∧ Aside0 (rematchref03_Diff.l0 kq t173 x6_1 x7_1 = some r) ∧ Aside0 (kq ≤ k) ∧ Aside0 (Below w.heap.size w w'))
  case atStart => exact ⟨(t174), (0), (by first | rfl | (simp; done) | (simp [*]; done)), (by first | rfl | (simp; done) | (simp [*]; done)), H', ⟨Nat.le_refl _⟩, ⟨by repeat (first | (with_reducible first | exact HB.out | apply below_alloc | apply pw_below_drewN | apply below_drew1) | exact HB.out)⟩⟩
  case round =>
    clear H'
    try clear c1
    try clear c2
    try clear p2
    obtain ⟨x6_1, x7_1, rfl, rfl, HA, HK1, HB⟩ := hrel
    cases gk with
    | zero => exact absurd HA.out (by simp [rematchref03_Diff.l0])
    | succ k1 =>
      have H := HA.out
      clear HA
      simp only [rematchref03_Diff.l0] at H
      replace H := Option.bind_eq_some_iff.mp H
      obtain ⟨t175, A70, H⟩ := H
      replace H : (if t175 = true then (some x6_1) else (rematchref03_Diff.l1 k1 t173 x6_1 x7_1 x7_1)) = some r := H
      have A7 := Aside0.mk A70
      clear A70
      by_cases c8 : t175 = true
      · subst c8
        have H1 : (some x6_1) = some r := by rw [if_pos rfl] at H; exact H
        clear H
        have H := H1
        clear H1
        obtain rfl := Option.some.inj H
        go_wp2_with (first | ((with_reducible refine gate_callee (f := 23) rfl ?_); refine goesL_ (some 21) rfl rfl Try.func23 (by kernel_rfl) rfl #[.string t173, .int .i64 x7_1, .int .i64 (t173.size : Int)] rfl (by (try simp only [List.map_toArray, List.map_cons, List.map_nil]); first | done | rfl | (simp only [List.length_drop, List.length_take]; rfl)) ?_; (with_reducible refine (rematchref03_zero.calls k1 t173 x7_1 (t173.size : Int) true _ A7.out).mono ?_); rintro e w' ⟨rfl, ⟨nd, rfl⟩⟩; refine ⟨_, rfl, ?_⟩))
        go_ret
        exact ⟨by first | rfl | (simp [errW_none, errW_some] <;> rfl) | (simp [*, errW_none, errW_some] <;> rfl), by repeat (first | (with_reducible first | exact HB.out | apply below_alloc | apply pw_below_drewN | apply below_drew1) | exact HB.out)⟩
      · replace c8 := Bool.eq_false_iff.mpr c8
        subst c8
        have H1 : (rematchref03_Diff.l1 k1 t173 x6_1 x7_1 x7_1) = some r := by rw [if_neg (show ¬ (false = true) by decide)] at H; exact H
        clear H
        have H := H1
        clear H1
        have H' := Aside0.mk H
        clear H
        go_wp2_with (first | ((with_reducible refine gate_callee (f := 23) rfl ?_); refine goesL_ (some 21) rfl rfl Try.func23 (by kernel_rfl) rfl #[.string t173, .int .i64 x7_1, .int .i64 (t173.size : Int)] rfl (by (try simp only [List.map_toArray, List.map_cons, List.map_nil]); first | done | rfl | (simp only [List.length_drop, List.length_take]; rfl)) ?_; (with_reducible refine (rematchref03_zero.calls k1 t173 x7_1 (t173.size : Int) false _ A7.out).mono ?_); rintro e w' ⟨rfl, ⟨nd, rfl⟩⟩; refine ⟨_, rfl, ?_⟩))
        go_loopg [8] k1 (fun kq v8 w' => ∃ (x8_2 : Int), v8 = .int .i64 x8_2 ∧ Aside0 (rematchref03_Diff.l1 kq t173 x6_1 x7_1 x8_2 = some r) ∧ Aside0 (kq ≤ k1) ∧ Aside0 (Below w.heap.size w w'))
        case atStart => exact ⟨(x7_1), (by first | rfl | (simp; done) | (simp [*]; done)), H', ⟨Nat.le_refl _⟩, ⟨by repeat (first | (with_reducible first | exact HB.out | apply below_alloc | apply pw_below_drewN | apply below_drew1) | exact HB.out)⟩⟩
        case round =>
          clear H'
          try clear c1
          try clear c2
          try clear p2
          try clear c8
          try clear p2
          obtain ⟨x8_2, rfl, HA, HK2, HB⟩ := hrel
          cases gk with
          | zero => exact absurd HA.out (by simp [rematchref03_Diff.l1])
          | succ k2 =>
            have H := HA.out
            clear HA
            simp only [rematchref03_Diff.l1] at H
            by_cases c9 : 0 ≤ x8_2
            · rw [if_pos c9] at H
              have c9b0 : decide (0 ≤ x8_2) = true := decide_eq_true c9
              clear c9
              by_cases c10 : x8_2 < (t173.size : Int)
              · rw [if_pos c10] at H
                have c10b0 : decide (x8_2 < (t173.size : Int)) = true := decide_eq_true c10
                clear c10
                by_cases c12 : (bt t173 x8_2) = 0
                · rw [if_pos c12] at H
                  have c12b0 : ((bt t173 x8_2) == 0) = true := beq_iff_eq.mpr c12
                  have c12b1 : ((bt t173 x8_2) != 0) = false := bne_eq_false_iff_eq.mpr c12
                  clear c12
                  have H' := Aside0.mk H
                  clear H
                  have p11 : 0 ≤ (x8_2 : Int) := of_decide_eq_true (by first | (with_reducible assumption) | assumption)
                  have q11 : x8_2 < (t173.size : Int) := of_decide_eq_true (by first | (with_reducible assumption) | assumption)
                  have hx11 := bt_at t173 x8_2
                  replace p11 := eq_true p11
                  replace q11 := eq_true q11
                  go_wp2
                  go_roundg k2
                  case measure => have := HK1.out; have := HK2.out; omega
                  case rel => exact ⟨(wrap64 (x8_2 + 1)), (by first | rfl | (simp; done) | (simp [*]; done)), H', ⟨by have := HK1.out; have := HK2.out; omega⟩, ⟨by repeat (first | (with_reducible first | exact HB.out | apply below_alloc | apply pw_below_drewN | apply below_drew1) | exact HB.out)⟩⟩
                · rw [if_neg c12] at H
                  have c12b0 : ((bt t173 x8_2) == 0) = false := beq_eq_false_iff_ne.mpr c12
                  have c12b1 : ((bt t173 x8_2) != 0) = true := bne_iff_ne.mpr c12
                  have H' := Aside0.mk H
                  clear H
                  have p11 : 0 ≤ (x8_2 : Int) := of_decide_eq_true (by first | (with_reducible assumption) | assumption)
                  have q11 : x8_2 < (t173.size : Int) := of_decide_eq_true (by first | (with_reducible assumption) | assumption)
                  have hx11 := bt_at t173 x8_2
                  replace p11 := eq_true p11
                  replace q11 := eq_true q11
                  go_wp2
                  go_loopg [9] k2 (fun kq v9 w' => ∃ (x9_3 : Int), v9 = .int .i64 x9_3 ∧ Aside0 (rematchref03_Diff.l2 kq t173 x6_1 x7_1 x8_2 x9_3 = some r) ∧ Aside0 (kq ≤ k2) ∧ Aside0 (Below w.heap.size w w'))
                  case atStart => exact ⟨(x8_2), (by first | rfl | (simp; done) | (simp [*]; done)), H', ⟨Nat.le_refl _⟩, ⟨by repeat (first | (with_reducible first | exact HB.out | apply below_alloc | apply pw_below_drewN | apply below_drew1) | exact HB.out)⟩⟩
                  case round =>
                    clear H'
                    try clear c1
                    try clear p1
                    try clear q1
                    try clear hx1
                    try clear c2
                    try clear p2
                    try clear p6
                    try clear c8
                    try clear c9
                    try clear c9b0
                    try clear c10
                    try clear c10b0
                    try clear p11
                    try clear q11
                    try clear hx11
                    try clear c12
                    try clear c12b0
                    try clear c12b1
                    try clear p11
                    try clear p2
                    try clear q11
                    obtain ⟨x9_3, rfl, HA, HK3, HB⟩ := hrel
                    cases gk with
                    | zero => exact absurd HA.out (by simp [rematchref03_Diff.l2])
                    | succ k3 =>
                      have H := HA.out
                      clear HA
                      simp only [rematchref03_Diff.l2] at H
                      by_cases c13 : x9_3 < (t173.size : Int)
                      · rw [if_pos c13] at H
                        have c13b0 : decide (x9_3 < (t173.size : Int)) = true := decide_eq_true c13
                        clear c13
                        replace H := Option.bind_eq_some_iff.mp H
                        obtain ⟨t176, A140, H⟩ := H
                        replace H : (if t176 = true then (if ((wrap64 (x9_3 + 4)) ≤ (t173.size : Int)) then ((rematchref01_Varint.f k3 (IntKind.u64.wrap (wrap64 (x8_2 - x7_1)))).bind fun t177 => (if x6_1.size + t177.size ≤ 9223372036854775807 then ((rematchref01_Varint.f k3 (IntKind.u64.wrap (wrap64 (x9_3 - x8_2)))).bind fun t178 => (if (x6_1 ++ t177).size + t178.size ≤ 9223372036854775807 then (if 0 ≤ x8_2 then (if x8_2 ≤ x9_3 then (if x9_3 ≤ (t173.size : Int) then (if ((x6_1 ++ t177) ++ t178).size + (t173.extract (x8_2 : Int).toNat (x9_3 : Int).toNat).size ≤ 9223372036854775807 then (rematchref03_Diff.l0 k3 t173 (((x6_1 ++ t177) ++ t178) ++ (t173.extract (x8_2 : Int).toNat (x9_3 : Int).toNat)) x9_3) else (none)) else (none)) else (none)) else (none)) else (none))) else (none))) else ((rematchref03_zero.f k3 t173 x9_3 (t173.size : Int)).bind fun t179 => (if t179 = true then ((rematchref01_Varint.f k3 (IntKind.u64.wrap (wrap64 (x8_2 - x7_1)))).bind fun t180 => (if x6_1.size + t180.size ≤ 9223372036854775807 then ((rematchref01_Varint.f k3 (IntKind.u64.wrap (wrap64 (x9_3 - x8_2)))).bind fun t181 => (if (x6_1 ++ t180).size + t181.size ≤ 9223372036854775807 then (if 0 ≤ x8_2 then (if x8_2 ≤ x9_3 then (if x9_3 ≤ (t173.size : Int) then (if ((x6_1 ++ t180) ++ t181).size + (t173.extract (x8_2 : Int).toNat (x9_3 : Int).toNat).size ≤ 9223372036854775807 then (rematchref03_Diff.l0 k3 t173 (((x6_1 ++ t180) ++ t181) ++ (t173.extract (x8_2 : Int).toNat (x9_3 : Int).toNat)) x9_3) else (none)) else (none)) else (none)) else (none)) else (none))) else (none))) else (rematchref03_Diff.l2 k3 t173 x6_1 x7_1 x8_2 (wrap64 (x9_3 + 1)))))) else ((rematchref03_zero.f k3 t173 x9_3 (t173.size : Int)).bind fun t182 => (if t182 = true then ((rematchref01_Varint.f k3 (IntKind.u64.wrap (wrap64 (x8_2 - x7_1)))).bind fun t183 => (if x6_1.size + t183.size ≤ 9223372036854775807 then ((rematchref01_Varint.f k3 (IntKind.u64.wrap (wrap64 (x9_3 - x8_2)))).bind fun t184 => (if (x6_1 ++ t183).size + t184.size ≤ 9223372036854775807 then (if 0 ≤ x8_2 then (if x8_2 ≤ x9_3 then (if x9_3 ≤ (t173.size : Int) then (if ((x6_1 ++ t183) ++ t184).size + (t173.extract (x8_2 : Int).toNat (x9_3 : Int).toNat).size ≤ 9223372036854775807 then (rematchref03_Diff.l0 k3 t173 (((x6_1 ++ t183) ++ t184) ++ (t173.extract (x8_2 : Int).toNat (x9_3 : Int).toNat)) x9_3) else (none)) else (none)) else (none)) else (none)) else (none))) else (none))) else (rematchref03_Diff.l2 k3 t173 x6_1 x7_1 x8_2 (wrap64 (x9_3 + 1)))))) = some r := H
                        have A14 := Aside0.mk A140
                        clear A140
                        by_cases c15 : t176 = true
                        · subst c15
                          have H1 : (if ((wrap64 (x9_3 + 4)) ≤ (t173.size : Int)) then ((rematchref01_Varint.f k3 (IntKind.u64.wrap (wrap64 (x8_2 - x7_1)))).bind fun t177 => (if x6_1.size + t177.size ≤ 9223372036854775807 then ((rematchref01_Varint.f k3 (IntKind.u64.wrap (wrap64 (x9_3 - x8_2)))).bind fun t178 => (if (x6_1 ++ t177).size + t178.size ≤ 9223372036854775807 then (if 0 ≤ x8_2 then (if x8_2 ≤ x9_3 then (if x9_3 ≤ (t173.size : Int) then (if ((x6_1 ++ t177) ++ t178).size + (t173.extract (x8_2 : Int).toNat (x9_3 : Int).toNat).size ≤ 9223372036854775807 then (rematchref03_Diff.l0 k3 t173 (((x6_1 ++ t177) ++ t178) ++ (t173.extract (x8_2 : Int).toNat (x9_3 : Int).toNat)) x9_3) else (none)) else (none)) else (none)) else (none)) else (none))) else (none))) else ((rematchref03_zero.f k3 t173 x9_3 (t173.size : Int)).bind fun t179 => (if t179 = true then ((rematchref01_Varint.f k3 (IntKind.u64.wrap (wrap64 (x8_2 - x7_1)))).bind fun t180 => (if x6_1.size + t180.size ≤ 9223372036854775807 then ((rematchref01_Varint.f k3 (IntKind.u64.wrap (wrap64 (x9_3 - x8_2)))).bind fun t181 => (if (x6_1 ++ t180).size + t181.size ≤ 9223372036854775807 then (if 0 ≤ x8_2 then (if x8_2 ≤ x9_3 then (if x9_3 ≤ (t173.size : Int) then (if ((x6_1 ++ t180) ++ t181).size + (t173.extract (x8_2 : Int).toNat (x9_3 : Int).toNat).size ≤ 9223372036854775807 then (rematchref03_Diff.l0 k3 t173 (((x6_1 ++ t180) ++ t181) ++ (t173.extract (x8_2 : Int).toNat (x9_3 : Int).toNat)) x9_3) else (none)) else (none)) else (none)) else (none)) else (none))) else (none))) else (rematchref03_Diff.l2 k3 t173 x6_1 x7_1 x8_2 (wrap64 (x9_3 + 1)))))) = some r := by rw [if_pos rfl] at H; exact H
                          clear H
                          have H := H1
                          clear H1
                          by_cases c16 : ((wrap64 (x9_3 + 4)) ≤ (t173.size : Int))
                          · rw [if_pos c16] at H
                            have c16b0 : decide ((wrap64 (x9_3 + 4)) ≤ (t173.size : Int)) = true := decide_eq_true c16
                            clear c16
                            replace H := Option.bind_eq_some_iff.mp H
                            obtain ⟨t177, A170, H⟩ := H
                            replace H : (if x6_1.size + t177.size ≤ 9223372036854775807 then ((rematchref01_Varint.f k3 (IntKind.u64.wrap (wrap64 (x9_3 - x8_2)))).bind fun t178 => (if (x6_1 ++ t177).size + t178.size ≤ 9223372036854775807 then (if 0 ≤ x8_2 then (if x8_2 ≤ x9_3 then (if x9_3 ≤ (t173.size : Int) then (if ((x6_1 ++ t177) ++ t178).size + (t173.extract (x8_2 : Int).toNat (x9_3 : Int).toNat).size ≤ 9223372036854775807 then (rematchref03_Diff.l0 k3 t173 (((x6_1 ++ t177) ++ t178) ++ (t173.extract (x8_2 : Int).toNat (x9_3 : Int).toNat)) x9_3) else (none)) else (none)) else (none)) else (none)) else (none))) else (none)) = some r := H
                            have A17 := Aside0.mk A170
                            clear A170
                            by_cases c18 : x6_1.size + t177.size ≤ 9223372036854775807
                            · rw [if_pos c18] at H
                              have c18b0 := eq_true c18
                              have c18b1 : decide (x6_1.size + t177.size ≤ 9223372036854775807) = true := decide_eq_true c18
                              try have c18b2 : (9223372036854775807 < x6_1.size + t177.size) = False := eq_false (Nat.not_lt.2 c18)
                              replace H := Option.bind_eq_some_iff.mp H
                              obtain ⟨t178, A190, H⟩ := H
                              replace H : (if (x6_1 ++ t177).size + t178.size ≤ 9223372036854775807 then (if 0 ≤ x8_2 then (if x8_2 ≤ x9_3 then (if x9_3 ≤ (t173.size : Int) then (if ((x6_1 ++ t177) ++ t178).size + (t173.extract (x8_2 : Int).toNat (x9_3 : Int).toNat).size ≤ 9223372036854775807 then (rematchref03_Diff.l0 k3 t173 (((x6_1 ++ t177) ++ t178) ++ (t173.extract (x8_2 : Int).toNat (x9_3 : Int).toNat)) x9_3) else (none)) else (none)) else (none)) else (none)) else (none)) = some r := H
                              have A19 := Aside0.mk A190
                              clear A190
                              by_cases c20 : (x6_1 ++ t177).size + t178.size ≤ 9223372036854775807
                              · rw [if_pos c20] at H
                                have c20b0 := eq_true c20
                                have c20b1 : decide ((x6_1 ++ t177).size + t178.size ≤ 9223372036854775807) = true := decide_eq_true c20
                                try have c20b2 : (9223372036854775807 < (x6_1 ++ t177).size + t178.size) = False := eq_false (Nat.not_lt.2 c20)
                                (try (have c20b3 := c20b2; simp only [ByteArray.size_append] at c20b3))
                                by_cases c21 : 0 ≤ x8_2
                                · rw [if_pos c21] at H
                                  have c21b0 := eq_true c21
                                  have c21b1 : decide (0 ≤ x8_2) = true := decide_eq_true c21
                                  clear c21
                                  by_cases c22 : x8_2 ≤ x9_3
                                  · rw [if_pos c22] at H
                                    have c22b0 := eq_true c22
                                    have c22b1 : decide (x8_2 ≤ x9_3) = true := decide_eq_true c22
                                    clear c22
                                    by_cases c23 : x9_3 ≤ (t173.size : Int)
                                    · rw [if_pos c23] at H
                                      have c23b0 := eq_true c23
                                      have c23b1 : decide (x9_3 ≤ (t173.size : Int)) = true := decide_eq_true c23
                                      clear c23
                                      by_cases c24 : ((x6_1 ++ t177) ++ t178).size + (t173.extract (x8_2 : Int).toNat (x9_3 : Int).toNat).size ≤ 9223372036854775807
                                      · rw [if_pos c24] at H
                                        have c24b0 := eq_true c24
                                        have c24b1 : decide (((x6_1 ++ t177) ++ t178).size + (t173.extract (x8_2 : Int).toNat (x9_3 : Int).toNat).size ≤ 9223372036854775807) = true := decide_eq_true c24
                                        try have c24b2 : (9223372036854775807 < ((x6_1 ++ t177) ++ t178).size + (t173.extract (x8_2 : Int).toNat (x9_3 : Int).toNat).size) = False := eq_false (Nat.not_lt.2 c24)
                                        have c24b5 : (9223372036854775807 < x6_1.size + t177.size + t178.size + (x9_3.toNat - x8_2.toNat)) = False := by
                                          refine eq_false (Nat.not_lt.2 ?_)
                                          have q6 := of_decide_eq_true c23b1
                                          have q7 := c24
                                          simp only [ByteArray.size_append, ByteArray.size_extract] at q7
                                          omega
                                        (try (have c24b3 := c24b2; simp only [ByteArray.size_append] at c24b3))
                                        have H' := Aside0.mk H
                                        clear H
                                        try go_wp2_with (first | (go_at_call 23; (with_reducible refine (rematchref03_zero.calls k3 t173 x9_3 4 true _ A14.out).mono ?_); rintro e w' ⟨rfl, ⟨nd, rfl⟩⟩))
                                        (try (rw [drewN_self wr]; generalize hq_ : World.drewN wr _ = wr; have n0_ : Aside0 (Below w.heap.size w wr) := ⟨by rw [← hq_]; exact (by repeat (first | (with_reducible first | exact HB.out | apply below_alloc | apply pw_below_drewN | apply below_drew1) | exact HB.out))⟩; clear HB hq_; have HB := n0_; clear n0_))
                                        have n0_ := Aside0.mk (below_drew1 HB.out)
                                        clear HB
                                        have HB := n0_
                                        clear n0_
                                        refine start_ (n := 19) (S := fun w' => True) (ds := []) #[false, false, false, false, false, false, false, false, false, false, false, false, false, false, false, false, false, false, false] (by kernel_rfl) rfl rfl trivial (fun hHeld => ?_); refine with_tabW rematchref03_Diff.tab11 rematchref03_Diff.bits11 (fun HT_ HW_ => ?_)
                                        generalize wr.drew = w25 at HB hHeld ⊢
                                        refine pure_ (i := 0) (N := some 58) (v := ?_) (a' := ?_) #[true, false, false, false, false, false, false, false, false, false, false, false, false, false, false, false, false, false, false] rfl rfl (any_of HT_.out (by kernel_rfl)) (fun _ _ _ h => h) (Or.inl ⟨by rfl, ?_⟩) ?_ ?_
                                        rotate_left
                                        · intro w'
                                          go_simp
                                          with_reducible rfl
                                        rotate_left
                                        · simp only [Act.put, List.setIfInBounds_toArray, List.set_cons_zero, List.set_cons_succ, i64_w, i32_w]
                                          rfl
                                        refine pure_ (i := 1) (N := some 59) (v := ?_) (a' := ?_) #[true, true, false, false, false, false, false, false, false, false, false, false, false, false, false, false, false, false, false] rfl rfl (any_of HT_.out (by kernel_rfl)) (fun _ _ _ h => h) (Or.inl ⟨by rfl, ?_⟩) ?_ ?_
                                        rotate_left
                                        · intro w'
                                          go_simp
                                          with_reducible rfl
                                        rotate_left
                                        · simp only [Act.put, List.setIfInBounds_toArray, List.set_cons_zero, List.set_cons_succ, i64_w, i32_w]
                                          rfl
                                        refine pure_ (i := 2) (N := some 60) (v := ?_) (a' := ?_) #[true, true, true, false, false, false, false, false, false, false, false, false, false, false, false, false, false, false, false] rfl rfl (any_of HT_.out (by kernel_rfl)) (fun _ _ _ h => h) (Or.inl ⟨by rfl, ?_⟩) ?_ ?_
                                        rotate_left
                                        · intro w'
                                          go_simp
                                          with_reducible rfl
                                        rotate_left
                                        · simp only [Act.put, List.setIfInBounds_toArray, List.set_cons_zero, List.set_cons_succ, i64_w, i32_w]
                                          rfl
                                        refine pure_ (i := 3) (N := some 61) (v := ?_) (a' := ?_) #[true, true, true, true, false, false, false, false, false, false, false, false, false, false, false, false, false, false, false] rfl rfl (any_of HT_.out (by kernel_rfl)) (fun _ _ _ h => h) (Or.inl ⟨by rfl, ?_⟩) ?_ ?_
                                        rotate_left
                                        · intro w'
                                          go_simp
                                          with_reducible rfl
                                        rotate_left
                                        · simp only [Act.put, List.setIfInBounds_toArray, List.set_cons_zero, List.set_cons_succ, i64_w, i32_w]
                                          rfl
                                        refine pure_ (i := 4) (N := some 62) (v := ?_) (a' := ?_) #[true, true, true, true, true, false, false, false, false, false, false, false, false, false, false, false, false, false, false] rfl rfl (any_of HT_.out (by kernel_rfl)) (fun _ _ _ h => h) (Or.inl ⟨by rfl, ?_⟩) ?_ ?_
                                        rotate_left
                                        · intro w'
                                          go_simp
                                          with_reducible rfl
                                        rotate_left
                                        · simp only [Act.put, List.setIfInBounds_toArray, List.set_cons_zero, List.set_cons_succ, i64_w, i32_w]
                                          rfl
                                        refine pure_ (i := 7) (N := some 65) (v := ?_) (a' := ?_) #[true, true, true, true, true, false, false, true, false, false, false, false, false, false, false, false, false, false, false] rfl rfl (any_of HT_.out (by kernel_rfl)) (fun _ _ _ h => h) (Or.inl ⟨by rfl, ?_⟩) ?_ ?_
                                        rotate_left
                                        · intro w'
                                          go_simp
                                          with_reducible rfl
                                        rotate_left
                                        · simp only [Act.put, List.setIfInBounds_toArray, List.set_cons_zero, List.set_cons_succ, i64_w, i32_w]
                                          rfl
                                        refine pure_ (i := 8) (N := some 66) (v := ?_) (a' := ?_) #[true, true, true, true, true, false, false, true, true, false, false, false, false, false, false, false, false, false, false] rfl rfl (any_of HT_.out (by kernel_rfl)) (fun _ _ _ h => h) (Or.inl ⟨by rfl, ?_⟩) ?_ ?_
                                        rotate_left
                                        · intro w'
                                          go_simp
                                          with_reducible rfl
                                        rotate_left
                                        · simp only [Act.put, List.setIfInBounds_toArray, List.set_cons_zero, List.set_cons_succ, i64_w, i32_w]
                                          rfl
                                        refine pure_ (i := 9) (N := some 67) (v := ?_) (a' := ?_) #[true, true, true, true, true, false, false, true, true, true, false, false, false, false, false, false, false, false, false] rfl rfl (any_of HT_.out (by kernel_rfl)) (fun _ _ _ h => h) (Or.inl ⟨by rfl, ?_⟩) ?_ ?_
                                        rotate_left
                                        · intro w'
                                          go_simp
                                          with_reducible rfl
                                        rotate_left
                                        · simp only [Act.put, List.setIfInBounds_toArray, List.set_cons_zero, List.set_cons_succ, i64_w, i32_w]
                                          rfl
                                        refine pure_ (i := 10) (N := some 68) (v := ?_) (a' := ?_) #[true, true, true, true, true, false, false, true, true, true, true, false, false, false, false, false, false, false, false] rfl rfl (any_of HT_.out (by kernel_rfl)) (fun _ _ _ h => h) (Or.inl ⟨by rfl, ?_⟩) ?_ ?_
                                        rotate_left
                                        · intro w'
                                          go_simp
                                          with_reducible rfl
                                        rotate_left
                                        · simp only [Act.put, List.setIfInBounds_toArray, List.set_cons_zero, List.set_cons_succ, i64_w, i32_w]
                                          rfl
                                        refine pure_ (i := 13) (N := some 71) (v := ?_) (a' := ?_) #[true, true, true, true, true, false, false, true, true, true, true, false, false, true, false, false, false, false, false] rfl rfl (any_of HT_.out (by kernel_rfl)) (fun _ _ _ h => h) (Or.inl ⟨by rfl, ?_⟩) ?_ ?_
                                        rotate_left
                                        · intro w'
                                          go_simp
                                          with_reducible rfl
                                        rotate_left
                                        · simp only [Act.put, List.setIfInBounds_toArray, List.set_cons_zero, List.set_cons_succ, i64_w, i32_w]
                                          rfl
                                        refine pure_ (i := 14) (N := some 72) (v := ?_) (a' := ?_) #[true, true, true, true, true, false, false, true, true, true, true, false, false, true, true, false, false, false, false] rfl rfl (any_of HT_.out (by kernel_rfl)) (fun _ _ _ h => h) (Or.inl ⟨by rfl, ?_⟩) ?_ ?_
                                        rotate_left
                                        · intro w'
                                          go_simp
                                          with_reducible rfl
                                        rotate_left
                                        · simp only [Act.put, List.setIfInBounds_toArray, List.set_cons_zero, List.set_cons_succ, i64_w, i32_w]
                                          rfl
                                        refine pure_ (i := 15) (N := some 73) (v := ?_) (a' := ?_) #[true, true, true, true, true, false, false, true, true, true, true, false, false, true, true, true, false, false, false] rfl rfl (any_of HT_.out (by kernel_rfl)) (fun _ _ _ h => h) (Or.inl ⟨by rfl, ?_⟩) ?_ ?_
                                        rotate_left
                                        · intro w'
                                          go_simp
                                          with_reducible rfl
                                        rotate_left
                                        · simp only [Act.put, List.setIfInBounds_toArray, List.set_cons_zero, List.set_cons_succ, i64_w, i32_w]
                                          rfl
                                        refine pure_ (i := 16) (N := some 74) (v := ?_) (a' := ?_) #[true, true, true, true, true, false, false, true, true, true, true, false, false, true, true, true, true, false, false] rfl rfl (any_of HT_.out (by kernel_rfl)) (fun _ _ _ h => h) (Or.inl ⟨by rfl, ?_⟩) ?_ ?_
                                        rotate_left
                                        · intro w'
                                          go_simp
                                          with_reducible rfl
                                        rotate_left
                                        · simp only [Act.put, List.setIfInBounds_toArray, List.set_cons_zero, List.set_cons_succ, i64_w, i32_w]
                                          rfl
                                        refine one_ (i := 5) (N := some 63) #[true, true, true, true, true, true, false, true, true, true, true, false, false, true, true, true, true, false, false] rfl rfl (one_of HT_.out (by kernel_rfl)) (by decide) (fun K hK => ?_)
                                        refine goes_ Try.func22 (by kernel_rfl) rfl #[.int .u64 (IntKind.u64.wrap (wrap64 (x8_2 - x7_1)))] (by rfl) rfl rfl (by (try simp only [List.map_toArray, List.map_cons, List.map_nil]); first | done | rfl | (simp only [List.length_drop, List.length_take]; rfl)) ?_
                                        with_reducible refine (rematchref01_Varint.calls k3 (IntKind.u64.wrap (wrap64 (x8_2 - x7_1))) t177 _ A17.out).mono ?_
                                        rintro e w26 ⟨rfl, hb⟩
                                        refine ⟨_, rfl, ?_⟩
                                        have n0_ := Aside0.mk (below_step (by repeat (first | (with_reducible first | exact HB.out | apply below_alloc | apply pw_below_drewN | apply below_drew1) | exact HB.out)) hb)
                                        clear HB
                                        have HB := n0_
                                        clear n0_
                                        (try clear hb)
                                        (try clear hb2)
                                        (try clear hk)
                                        (try clear hi)
                                        refine hK.out _ _ trivial (fun hHeld => ?_)
                                        clear hK K
                                        refine norm_ (a' := ?_) ?_ ?_
                                        rotate_left
                                        · show Act.put _ (some 63) _ = _
                                          simp only [Act.put, List.setIfInBounds_toArray, List.set_cons_zero, List.set_cons_succ, i64_w, i32_w]
                                          rfl
                                        refine pure_ (i := 6) (N := some 64) (v := ?_) (a' := ?_) #[true, true, true, true, true, true, true, true, true, true, true, false, false, true, true, true, true, false, false] rfl rfl (any_of HT_.out (by kernel_rfl)) (fun _ _ _ h => h) (Or.inl ⟨by rfl, ?_⟩) ?_ ?_
                                        rotate_left
                                        · intro w'
                                          go_simp
                                          with_reducible rfl
                                        rotate_left
                                        · simp only [Act.put, List.setIfInBounds_toArray, List.set_cons_zero, List.set_cons_succ, i64_w, i32_w]
                                          rfl
                                        refine one_ (i := 11) (N := some 69) #[true, true, true, true, true, true, true, true, true, true, true, true, false, true, true, true, true, false, false] rfl rfl (one_of HT_.out (by kernel_rfl)) (by decide) (fun K hK => ?_)
                                        refine goes_ Try.func22 (by kernel_rfl) rfl #[.int .u64 (IntKind.u64.wrap (wrap64 (x9_3 - x8_2)))] (by rfl) rfl rfl (by (try simp only [List.map_toArray, List.map_cons, List.map_nil]); first | done | rfl | (simp only [List.length_drop, List.length_take]; rfl)) ?_
                                        with_reducible refine (rematchref01_Varint.calls k3 (IntKind.u64.wrap (wrap64 (x9_3 - x8_2))) t178 _ A19.out).mono ?_
                                        rintro e w27 ⟨rfl, hb⟩
                                        refine ⟨_, rfl, ?_⟩
                                        have n0_ := Aside0.mk (below_step (by repeat (first | (with_reducible first | exact HB.out | apply below_alloc | apply pw_below_drewN | apply below_drew1) | exact HB.out)) hb)
                                        clear HB
                                        have HB := n0_
                                        clear n0_
                                        (try clear hb)
                                        (try clear hb2)
                                        (try clear hk)
                                        (try clear hi)
                                        refine hK.out _ _ trivial (fun hHeld => ?_)
                                        clear hK K
                                        refine norm_ (a' := ?_) ?_ ?_
                                        rotate_left
                                        · show Act.put _ (some 69) _ = _
                                          simp only [Act.put, List.setIfInBounds_toArray, List.set_cons_zero, List.set_cons_succ, i64_w, i32_w]
                                          rfl
                                        refine pure_ (i := 12) (N := some 70) (v := ?_) (a' := ?_) #[true, true, true, true, true, true, true, true, true, true, true, true, true, true, true, true, true, false, false] rfl rfl (any_of HT_.out (by kernel_rfl)) (fun _ _ _ h => h) (Or.inl ⟨by rfl, ?_⟩) ?_ ?_
                                        rotate_left
                                        · intro w'
                                          go_simp
                                          with_reducible rfl
                                        rotate_left
                                        · simp only [Act.put, List.setIfInBounds_toArray, List.set_cons_zero, List.set_cons_succ, i64_w, i32_w]
                                          rfl
                                        refine pure_ (i := 17) (N := some 75) (v := ?_) (a' := ?_) #[true, true, true, true, true, true, true, true, true, true, true, true, true, true, true, true, true, true, false] rfl rfl (any_of HT_.out (by kernel_rfl)) (fun _ _ _ h => h) (Or.inl ⟨by rfl, ?_⟩) ?_ ?_
                                        rotate_left
                                        · intro w'
                                          go_simp
                                          with_reducible rfl
                                        rotate_left
                                        · simp only [Act.put, List.setIfInBounds_toArray, List.set_cons_zero, List.set_cons_succ, i64_w, i32_w]
                                          rfl
                                        refine pure_ (i := 18) (N := some 6) (v := ?_) (a' := ?_) #[true, true, true, true, true, true, true, true, true, true, true, true, true, true, true, true, true, true, true] rfl rfl (any_of HT_.out (by kernel_rfl)) (fun _ _ _ h => h) (Or.inl ⟨by rfl, ?_⟩) ?_ ?_
                                        rotate_left
                                        · intro w'
                                          go_simp
                                          with_reducible rfl
                                        rotate_left
                                        · simp only [Act.put, List.setIfInBounds_toArray, List.set_cons_zero, List.set_cons_succ, i64_w, i32_w]
                                          rfl
                                        refine done_ (done_of HT_.out (by kernel_rfl)) ?_
                                        try go_wp2
                                        go_roundg k3
                                        case measure => have := HK1.out; have := HK2.out; have := HK3.out; omega
                                        case rel => exact ⟨(((x6_1 ++ t177) ++ t178) ++ (t173.extract (x8_2 : Int).toNat (x9_3 : Int).toNat)), (x9_3), (by first | rfl | (simp; done) | (simp [*]; done)), (by first | rfl | (simp; done) | (simp [*]; done)), H', ⟨by have := HK1.out; have := HK2.out; have := HK3.out; omega⟩, ⟨by repeat (first | (with_reducible first | exact HB.out | apply below_alloc | apply pw_below_drewN | apply below_drew1) | exact HB.out)⟩⟩
                                      · rw [if_neg c24] at H
                                        exact absurd H (by simp)
                                    · rw [if_neg c23] at H
                                      exact absurd H (by simp)
                                  · rw [if_neg c22] at H
                                    exact absurd H (by simp)
                                · rw [if_neg c21] at H
                                  exact absurd H (by simp)
                              · rw [if_neg c20] at H
                                exact absurd H (by simp)
                            · rw [if_neg c18] at H
                              exact absurd H (by simp)
                          · rw [if_neg c16] at H
                            have c16b0 : decide ((wrap64 (x9_3 + 4)) ≤ (t173.size : Int)) = false := decide_eq_false c16
                            clear c16
                            replace H := Option.bind_eq_some_iff.mp H
                            obtain ⟨t179, A280, H⟩ := H
                            replace H : (if t179 = true then ((rematchref01_Varint.f k3 (IntKind.u64.wrap (wrap64 (x8_2 - x7_1)))).bind fun t180 => (if x6_1.size + t180.size ≤ 9223372036854775807 then ((rematchref01_Varint.f k3 (IntKind.u64.wrap (wrap64 (x9_3 - x8_2)))).bind fun t181 => (if (x6_1 ++ t180).size + t181.size ≤ 9223372036854775807 then (if 0 ≤ x8_2 then (if x8_2 ≤ x9_3 then (if x9_3 ≤ (t173.size : Int) then (if ((x6_1 ++ t180) ++ t181).size + (t173.extract (x8_2 : Int).toNat (x9_3 : Int).toNat).size ≤ 9223372036854775807 then (rematchref03_Diff.l0 k3 t173 (((x6_1 ++ t180) ++ t181) ++ (t173.extract (x8_2 : Int).toNat (x9_3 : Int).toNat)) x9_3) else (none)) else (none)) else (none)) else (none)) else (none))) else (none))) else (rematchref03_Diff.l2 k3 t173 x6_1 x7_1 x8_2 (wrap64 (x9_3 + 1)))) = some r := H
                            have A28 := Aside0.mk A280
                            clear A280
                            by_cases c29 : t179 = true
                            · subst c29
                              have H1 : ((rematchref01_Varint.f k3 (IntKind.u64.wrap (wrap64 (x8_2 - x7_1)))).bind fun t180 => (if x6_1.size + t180.size ≤ 9223372036854775807 then ((rematchref01_Varint.f k3 (IntKind.u64.wrap (wrap64 (x9_3 - x8_2)))).bind fun t181 => (if (x6_1 ++ t180).size + t181.size ≤ 9223372036854775807 then (if 0 ≤ x8_2 then (if x8_2 ≤ x9_3 then (if x9_3 ≤ (t173.size : Int) then (if ((x6_1 ++ t180) ++ t181).size + (t173.extract (x8_2 : Int).toNat (x9_3 : Int).toNat).size ≤ 9223372036854775807 then (rematchref03_Diff.l0 k3 t173 (((x6_1 ++ t180) ++ t181) ++ (t173.extract (x8_2 : Int).toNat (x9_3 : Int).toNat)) x9_3) else (none)) else (none)) else (none)) else (none)) else (none))) else (none))) = some r := by rw [if_pos rfl] at H; exact H
                              clear H
                              have H := H1
                              clear H1
                              replace H := Option.bind_eq_some_iff.mp H
                              obtain ⟨t180, A300, H⟩ := H
                              replace H : (if x6_1.size + t180.size ≤ 9223372036854775807 then ((rematchref01_Varint.f k3 (IntKind.u64.wrap (wrap64 (x9_3 - x8_2)))).bind fun t181 => (if (x6_1 ++ t180).size + t181.size ≤ 9223372036854775807 then (if 0 ≤ x8_2 then (if x8_2 ≤ x9_3 then (if x9_3 ≤ (t173.size : Int) then (if ((x6_1 ++ t180) ++ t181).size + (t173.extract (x8_2 : Int).toNat (x9_3 : Int).toNat).size ≤ 9223372036854775807 then (rematchref03_Diff.l0 k3 t173 (((x6_1 ++ t180) ++ t181) ++ (t173.extract (x8_2 : Int).toNat (x9_3 : Int).toNat)) x9_3) else (none)) else (none)) else (none)) else (none)) else (none))) else (none)) = some r := H
                              have A30 := Aside0.mk A300
                              clear A300
                              by_cases c31 : x6_1.size + t180.size ≤ 9223372036854775807
                              · rw [if_pos c31] at H
                                have c31b0 := eq_true c31
                                have c31b1 : decide (x6_1.size + t180.size ≤ 9223372036854775807) = true := decide_eq_true c31
                                try have c31b2 : (9223372036854775807 < x6_1.size + t180.size) = False := eq_false (Nat.not_lt.2 c31)
                                replace H := Option.bind_eq_some_iff.mp H
                                obtain ⟨t181, A320, H⟩ := H
                                replace H : (if (x6_1 ++ t180).size + t181.size ≤ 9223372036854775807 then (if 0 ≤ x8_2 then (if x8_2 ≤ x9_3 then (if x9_3 ≤ (t173.size : Int) then (if ((x6_1 ++ t180) ++ t181).size + (t173.extract (x8_2 : Int).toNat (x9_3 : Int).toNat).size ≤ 9223372036854775807 then (rematchref03_Diff.l0 k3 t173 (((x6_1 ++ t180) ++ t181) ++ (t173.extract (x8_2 : Int).toNat (x9_3 : Int).toNat)) x9_3) else (none)) else (none)) else (none)) else (none)) else (none)) = some r := H
                                have A32 := Aside0.mk A320
                                clear A320
                                by_cases c33 : (x6_1 ++ t180).size + t181.size ≤ 9223372036854775807
                                · rw [if_pos c33] at H
                                  have c33b0 := eq_true c33
                                  have c33b1 : decide ((x6_1 ++ t180).size + t181.size ≤ 9223372036854775807) = true := decide_eq_true c33
                                  try have c33b2 : (9223372036854775807 < (x6_1 ++ t180).size + t181.size) = False := eq_false (Nat.not_lt.2 c33)
                                  (try (have c33b3 := c33b2; simp only [ByteArray.size_append] at c33b3))
                                  by_cases c34 : 0 ≤ x8_2
                                  · rw [if_pos c34] at H
                                    have c34b0 := eq_true c34
                                    have c34b1 : decide (0 ≤ x8_2) = true := decide_eq_true c34
                                    clear c34
                                    by_cases c35 : x8_2 ≤ x9_3
                                    · rw [if_pos c35] at H
                                      have c35b0 := eq_true c35
                                      have c35b1 : decide (x8_2 ≤ x9_3) = true := decide_eq_true c35
                                      clear c35
                                      by_cases c36 : x9_3 ≤ (t173.size : Int)
                                      · rw [if_pos c36] at H
                                        have c36b0 := eq_true c36
                                        have c36b1 : decide (x9_3 ≤ (t173.size : Int)) = true := decide_eq_true c36
                                        clear c36
                                        by_cases c37 : ((x6_1 ++ t180) ++ t181).size + (t173.extract (x8_2 : Int).toNat (x9_3 : Int).toNat).size ≤ 9223372036854775807
                                        · rw [if_pos c37] at H
                                          have c37b0 := eq_true c37
                                          have c37b1 : decide (((x6_1 ++ t180) ++ t181).size + (t173.extract (x8_2 : Int).toNat (x9_3 : Int).toNat).size ≤ 9223372036854775807) = true := decide_eq_true c37
                                          try have c37b2 : (9223372036854775807 < ((x6_1 ++ t180) ++ t181).size + (t173.extract (x8_2 : Int).toNat (x9_3 : Int).toNat).size) = False := eq_false (Nat.not_lt.2 c37)
                                          have c37b5 : (9223372036854775807 < x6_1.size + t180.size + t181.size + (x9_3.toNat - x8_2.toNat)) = False := by
                                            refine eq_false (Nat.not_lt.2 ?_)
                                            have q6 := of_decide_eq_true c36b1
                                            have q7 := c37
                                            simp only [ByteArray.size_append, ByteArray.size_extract] at q7
                                            omega
                                          (try (have c37b3 := c37b2; simp only [ByteArray.size_append] at c37b3))
                                          have H' := Aside0.mk H
                                          clear H
                                          try go_wp2_with (first | (go_at_call 23; (with_reducible refine (rematchref03_zero.calls k3 t173 x9_3 4 true _ A14.out).mono ?_); rintro e w' ⟨rfl, ⟨nd, rfl⟩⟩) | (go_at_call 23; (with_reducible refine (rematchref03_zero.calls k3 t173 x9_3 (t173.size : Int) true _ A28.out).mono ?_); rintro e w' ⟨rfl, ⟨nd, rfl⟩⟩))
                                          (try (rw [drewN_self wr]; generalize hq_ : World.drewN wr _ = wr; have n0_ : Aside0 (Below w.heap.size w wr) := ⟨by rw [← hq_]; exact (by repeat (first | (with_reducible first | exact HB.out | apply below_alloc | apply pw_below_drewN | apply below_drew1) | exact HB.out))⟩; clear HB hq_; have HB := n0_; clear n0_))
                                          have n0_ := Aside0.mk (below_drew1 HB.out)
                                          clear HB
                                          have HB := n0_
                                          clear n0_
                                          refine start_ (n := 19) (S := fun w' => True) (ds := []) #[false, false, false, false, false, false, false, false, false, false, false, false, false, false, false, false, false, false, false] (by kernel_rfl) rfl rfl trivial (fun hHeld => ?_); refine with_tabW rematchref03_Diff.tab11 rematchref03_Diff.bits11 (fun HT_ HW_ => ?_)
                                          generalize wr.drew = w38 at HB hHeld ⊢
                                          refine pure_ (i := 0) (N := some 58) (v := ?_) (a' := ?_) #[true, false, false, false, false, false, false, false, false, false, false, false, false, false, false, false, false, false, false] rfl rfl (any_of HT_.out (by kernel_rfl)) (fun _ _ _ h => h) (Or.inl ⟨by rfl, ?_⟩) ?_ ?_
                                          rotate_left
                                          · intro w'
                                            go_simp
                                            with_reducible rfl
                                          rotate_left
                                          · simp only [Act.put, List.setIfInBounds_toArray, List.set_cons_zero, List.set_cons_succ, i64_w, i32_w]
                                            rfl
                                          refine pure_ (i := 1) (N := some 59) (v := ?_) (a' := ?_) #[true, true, false, false, false, false, false, false, false, false, false, false, false, false, false, false, false, false, false] rfl rfl (any_of HT_.out (by kernel_rfl)) (fun _ _ _ h => h) (Or.inl ⟨by rfl, ?_⟩) ?_ ?_
                                          rotate_left
                                          · intro w'
                                            go_simp
                                            with_reducible rfl
                                          rotate_left
                                          · simp only [Act.put, List.setIfInBounds_toArray, List.set_cons_zero, List.set_cons_succ, i64_w, i32_w]
                                            rfl
                                          refine pure_ (i := 2) (N := some 60) (v := ?_) (a' := ?_) #[true, true, true, false, false, false, false, false, false, false, false, false, false, false, false, false, false, false, false] rfl rfl (any_of HT_.out (by kernel_rfl)) (fun _ _ _ h => h) (Or.inl ⟨by rfl, ?_⟩) ?_ ?_
                                          rotate_left
                                          · intro w'
                                            go_simp
                                            with_reducible rfl
                                          rotate_left
                                          · simp only [Act.put, List.setIfInBounds_toArray, List.set_cons_zero, List.set_cons_succ, i64_w, i32_w]
                                            rfl
                                          refine pure_ (i := 3) (N := some 61) (v := ?_) (a' := ?_) #[true, true, true, true, false, false, false, false, false, false, false, false, false, false, false, false, false, false, false] rfl rfl (any_of HT_.out (by kernel_rfl)) (fun _ _ _ h => h) (Or.inl ⟨by rfl, ?_⟩) ?_ ?_
                                          rotate_left
                                          · intro w'
                                            go_simp
                                            with_reducible rfl
                                          rotate_left
                                          · simp only [Act.put, List.setIfInBounds_toArray, List.set_cons_zero, List.set_cons_succ, i64_w, i32_w]
                                            rfl
                                          refine pure_ (i := 4) (N := some 62) (v := ?_) (a' := ?_) #[true, true, true, true, true, false, false, false, false, false, false, false, false, false, false, false, false, false, false] rfl rfl (any_of HT_.out (by kernel_rfl)) (fun _ _ _ h => h) (Or.inl ⟨by rfl, ?_⟩) ?_ ?_
                                          rotate_left
                                          · intro w'
                                            go_simp
                                            with_reducible rfl
                                          rotate_left
                                          · simp only [Act.put, List.setIfInBounds_toArray, List.set_cons_zero, List.set_cons_succ, i64_w, i32_w]
                                            rfl
                                          refine pure_ (i := 7) (N := some 65) (v := ?_) (a' := ?_) #[true, true, true, true, true, false, false, true, false, false, false, false, false, false, false, false, false, false, false] rfl rfl (any_of HT_.out (by kernel_rfl)) (fun _ _ _ h => h) (Or.inl ⟨by rfl, ?_⟩) ?_ ?_
                                          rotate_left
                                          · intro w'
                                            go_simp
                                            with_reducible rfl
                                          rotate_left
                                          · simp only [Act.put, List.setIfInBounds_toArray, List.set_cons_zero, List.set_cons_succ, i64_w, i32_w]
                                            rfl
                                          refine pure_ (i := 8) (N := some 66) (v := ?_) (a' := ?_) #[true, true, true, true, true, false, false, true, true, false, false, false, false, false, false, false, false, false, false] rfl rfl (any_of HT_.out (by kernel_rfl)) (fun _ _ _ h => h) (Or.inl ⟨by rfl, ?_⟩) ?_ ?_
                                          rotate_left
                                          · intro w'
                                            go_simp
                                            with_reducible rfl
                                          rotate_left
                                          · simp only [Act.put, List.setIfInBounds_toArray, List.set_cons_zero, List.set_cons_succ, i64_w, i32_w]
                                            rfl
                                          refine pure_ (i := 9) (N := some 67) (v := ?_) (a' := ?_) #[true, true, true, true, true, false, false, true, true, true, false, false, false, false, false, false, false, false, false] rfl rfl (any_of HT_.out (by kernel_rfl)) (fun _ _ _ h => h) (Or.inl ⟨by rfl, ?_⟩) ?_ ?_
                                          rotate_left
                                          · intro w'
                                            go_simp
                                            with_reducible rfl
                                          rotate_left
                                          · simp only [Act.put, List.setIfInBounds_toArray, List.set_cons_zero, List.set_cons_succ, i64_w, i32_w]
                                            rfl
                                          refine pure_ (i := 10) (N := some 68) (v := ?_) (a' := ?_) #[true, true, true, true, true, false, false, true, true, true, true, false, false, false, false, false, false, false, false] rfl rfl (any_of HT_.out (by kernel_rfl)) (fun _ _ _ h => h) (Or.inl ⟨by rfl, ?_⟩) ?_ ?_
                                          rotate_left
                                          · intro w'
                                            go_simp
                                            with_reducible rfl
                                          rotate_left
                                          · simp only [Act.put, List.setIfInBounds_toArray, List.set_cons_zero, List.set_cons_succ, i64_w, i32_w]
                                            rfl
                                          refine pure_ (i := 13) (N := some 71) (v := ?_) (a' := ?_) #[true, true, true, true, true, false, false, true, true, true, true, false, false, true, false, false, false, false, false] rfl rfl (any_of HT_.out (by kernel_rfl)) (fun _ _ _ h => h) (Or.inl ⟨by rfl, ?_⟩) ?_ ?_
                                          rotate_left
                                          · intro w'
                                            go_simp
                                            with_reducible rfl
                                          rotate_left
                                          · simp only [Act.put, List.setIfInBounds_toArray, List.set_cons_zero, List.set_cons_succ, i64_w, i32_w]
                                            rfl
                                          refine pure_ (i := 14) (N := some 72) (v := ?_) (a' := ?_) #[true, true, true, true, true, false, false, true, true, true, true, false, false, true, true, false, false, false, false] rfl rfl (any_of HT_.out (by kernel_rfl)) (fun _ _ _ h => h) (Or.inl ⟨by rfl, ?_⟩) ?_ ?_
                                          rotate_left
                                          · intro w'
                                            go_simp
                                            with_reducible rfl
                                          rotate_left
                                          · simp only [Act.put, List.setIfInBounds_toArray, List.set_cons_zero, List.set_cons_succ, i64_w, i32_w]
                                            rfl
                                          refine pure_ (i := 15) (N := some 73) (v := ?_) (a' := ?_) #[true, true, true, true, true, false, false, true, true, true, true, false, false, true, true, true, false, false, false] rfl rfl (any_of HT_.out (by kernel_rfl)) (fun _ _ _ h => h) (Or.inl ⟨by rfl, ?_⟩) ?_ ?_
                                          rotate_left
                                          · intro w'
                                            go_simp
                                            with_reducible rfl
                                          rotate_left
                                          · simp only [Act.put, List.setIfInBounds_toArray, List.set_cons_zero, List.set_cons_succ, i64_w, i32_w]
                                            rfl
                                          refine pure_ (i := 16) (N := some 74) (v := ?_) (a' := ?_) #[true, true, true, true, true, false, false, true, true, true, true, false, false, true, true, true, true, false, false] rfl rfl (any_of HT_.out (by kernel_rfl)) (fun _ _ _ h => h) (Or.inl ⟨by rfl, ?_⟩) ?_ ?_
                                          rotate_left
                                          · intro w'
                                            go_simp
                                            with_reducible rfl
                                          rotate_left
                                          · simp only [Act.put, List.setIfInBounds_toArray, List.set_cons_zero, List.set_cons_succ, i64_w, i32_w]
                                            rfl
                                          refine one_ (i := 5) (N := some 63) #[true, true, true, true, true, true, false, true, true, true, true, false, false, true, true, true, true, false, false] rfl rfl (one_of HT_.out (by kernel_rfl)) (by decide) (fun K hK => ?_)
                                          refine goes_ Try.func22 (by kernel_rfl) rfl #[.int .u64 (IntKind.u64.wrap (wrap64 (x8_2 - x7_1)))] (by rfl) rfl rfl (by (try simp only [List.map_toArray, List.map_cons, List.map_nil]); first | done | rfl | (simp only [List.length_drop, List.length_take]; rfl)) ?_
                                          with_reducible refine (rematchref01_Varint.calls k3 (IntKind.u64.wrap (wrap64 (x8_2 - x7_1))) t180 _ A30.out).mono ?_
                                          rintro e w39 ⟨rfl, hb⟩
                                          refine ⟨_, rfl, ?_⟩
                                          have n0_ := Aside0.mk (below_step (by repeat (first | (with_reducible first | exact HB.out | apply below_alloc | apply pw_below_drewN | apply below_drew1) | exact HB.out)) hb)
                                          clear HB
                                          have HB := n0_
                                          clear n0_
                                          (try clear hb)
                                          (try clear hb2)
                                          (try clear hk)
                                          (try clear hi)
                                          refine hK.out _ _ trivial (fun hHeld => ?_)
                                          clear hK K
                                          refine norm_ (a' := ?_) ?_ ?_
                                          rotate_left
                                          · show Act.put _ (some 63) _ = _
                                            simp only [Act.put, List.setIfInBounds_toArray, List.set_cons_zero, List.set_cons_succ, i64_w, i32_w]
                                            rfl
                                          refine pure_ (i := 6) (N := some 64) (v := ?_) (a' := ?_) #[true, true, true, true, true, true, true, true, true, true, true, false, false, true, true, true, true, false, false] rfl rfl (any_of HT_.out (by kernel_rfl)) (fun _ _ _ h => h) (Or.inl ⟨by rfl, ?_⟩) ?_ ?_
                                          rotate_left
                                          · intro w'
                                            go_simp
                                            with_reducible rfl
                                          rotate_left
                                          · simp only [Act.put, List.setIfInBounds_toArray, List.set_cons_zero, List.set_cons_succ, i64_w, i32_w]
                                            rfl
                                          refine one_ (i := 11) (N := some 69) #[true, true, true, true, true, true, true, true, true, true, true, true, false, true, true, true, true, false, false] rfl rfl (one_of HT_.out (by kernel_rfl)) (by decide) (fun K hK => ?_)
                                          refine goes_ Try.func22 (by kernel_rfl) rfl #[.int .u64 (IntKind.u64.wrap (wrap64 (x9_3 - x8_2)))] (by rfl) rfl rfl (by (try simp only [List.map_toArray, List.map_cons, List.map_nil]); first | done | rfl | (simp only [List.length_drop, List.length_take]; rfl)) ?_
                                          with_reducible refine (rematchref01_Varint.calls k3 (IntKind.u64.wrap (wrap64 (x9_3 - x8_2))) t181 _ A32.out).mono ?_
                                          rintro e w40 ⟨rfl, hb⟩
                                          refine ⟨_, rfl, ?_⟩
                                          have n0_ := Aside0.mk (below_step (by repeat (first | (with_reducible first | exact HB.out | apply below_alloc | apply pw_below_drewN | apply below_drew1) | exact HB.out)) hb)
                                          clear HB
                                          have HB := n0_
                                          clear n0_
                                          (try clear hb)
                                          (try clear hb2)
                                          (try clear hk)
                                          (try clear hi)
                                          refine hK.out _ _ trivial (fun hHeld => ?_)
                                          clear hK K
                                          refine norm_ (a' := ?_) ?_ ?_
                                          rotate_left
                                          · show Act.put _ (some 69) _ = _
                                            simp only [Act.put, List.setIfInBounds_toArray, List.set_cons_zero, List.set_cons_succ, i64_w, i32_w]
                                            rfl
                                          refine pure_ (i := 12) (N := some 70) (v := ?_) (a' := ?_) #[true, true, true, true, true, true, true, true, true, true, true, true, true, true, true, true, true, false, false] rfl rfl (any_of HT_.out (by kernel_rfl)) (fun _ _ _ h => h) (Or.inl ⟨by rfl, ?_⟩) ?_ ?_
                                          rotate_left
                                          · intro w'
                                            go_simp
                                            with_reducible rfl
                                          rotate_left
                                          · simp only [Act.put, List.setIfInBounds_toArray, List.set_cons_zero, List.set_cons_succ, i64_w, i32_w]
                                            rfl
                                          refine pure_ (i := 17) (N := some 75) (v := ?_) (a' := ?_) #[true, true, true, true, true, true, true, true, true, true, true, true, true, true, true, true, true, true, false] rfl rfl (any_of HT_.out (by kernel_rfl)) (fun _ _ _ h => h) (Or.inl ⟨by rfl, ?_⟩) ?_ ?_
                                          rotate_left
                                          · intro w'
                                            go_simp
                                            with_reducible rfl
                                          rotate_left
                                          · simp only [Act.put, List.setIfInBounds_toArray, List.set_cons_zero, List.set_cons_succ, i64_w, i32_w]
                                            rfl
                                          refine pure_ (i := 18) (N := some 6) (v := ?_) (a' := ?_) #[true, true, true, true, true, true, true, true, true, true, true, true, true, true, true, true, true, true, true] rfl rfl (any_of HT_.out (by kernel_rfl)) (fun _ _ _ h => h) (Or.inl ⟨by rfl, ?_⟩) ?_ ?_
                                          rotate_left
                                          · intro w'
                                            go_simp
                                            with_reducible rfl
                                          rotate_left
                                          · simp only [Act.put, List.setIfInBounds_toArray, List.set_cons_zero, List.set_cons_succ, i64_w, i32_w]
                                            rfl
                                          refine done_ (done_of HT_.out (by kernel_rfl)) ?_
                                          try go_wp2
                                          go_roundg k3
                                          case measure => have := HK1.out; have := HK2.out; have := HK3.out; omega
                                          case rel => exact ⟨(((x6_1 ++ t180) ++ t181) ++ (t173.extract (x8_2 : Int).toNat (x9_3 : Int).toNat)), (x9_3), (by first | rfl | (simp; done) | (simp [*]; done)), (by first | rfl | (simp; done) | (simp [*]; done)), H', ⟨by have := HK1.out; have := HK2.out; have := HK3.out; omega⟩, ⟨by repeat (first | (with_reducible first | exact HB.out | apply below_alloc | apply pw_below_drewN | apply below_drew1) | exact HB.out)⟩⟩
                                        · rw [if_neg c37] at H
                                          exact absurd H (by simp)
                                      · rw [if_neg c36] at H
                                        exact absurd H (by simp)
                                    · rw [if_neg c35] at H
                                      exact absurd H (by simp)
                                  · rw [if_neg c34] at H
                                    exact absurd H (by simp)
                                · rw [if_neg c33] at H
                                  exact absurd H (by simp)
                              · rw [if_neg c31] at H
                                exact absurd H (by simp)
                            · replace c29 := Bool.eq_false_iff.mpr c29
                              subst c29
                              have H1 : (rematchref03_Diff.l2 k3 t173 x6_1 x7_1 x8_2 (wrap64 (x9_3 + 1))) = some r := by rw [if_neg (show ¬ (false = true) by decide)] at H; exact H
                              clear H
                              have H := H1
                              clear H1
                              have H' := Aside0.mk H
                              clear H
                              go_wp2_with (first | (go_at_call 23; (with_reducible refine (rematchref03_zero.calls k3 t173 x9_3 4 true _ A14.out).mono ?_); rintro e w' ⟨rfl, ⟨nd, rfl⟩⟩) | (go_at_call 23; (with_reducible refine (rematchref03_zero.calls k3 t173 x9_3 (t173.size : Int) false _ A28.out).mono ?_); rintro e w' ⟨rfl, ⟨nd, rfl⟩⟩))
                              go_roundg k3
                              case measure => have := HK1.out; have := HK2.out; have := HK3.out; omega
                              case rel => exact ⟨(wrap64 (x9_3 + 1)), (by first | rfl | (simp; done) | (simp [*]; done)), H', ⟨by have := HK1.out; have := HK2.out; have := HK3.out; omega⟩, ⟨by repeat (first | (with_reducible first | exact HB.out | apply below_alloc | apply pw_below_drewN | apply below_drew1) | exact HB.out)⟩⟩
                        · replace c15 := Bool.eq_false_iff.mpr c15
                          subst c15
                          have H1 : ((rematchref03_zero.f k3 t173 x9_3 (t173.size : Int)).bind fun t182 => (if t182 = true then ((rematchref01_Varint.f k3 (IntKind.u64.wrap (wrap64 (x8_2 - x7_1)))).bind fun t183 => (if x6_1.size + t183.size ≤ 9223372036854775807 then ((rematchref01_Varint.f k3 (IntKind.u64.wrap (wrap64 (x9_3 - x8_2)))).bind fun t184 => (if (x6_1 ++ t183).size + t184.size ≤ 9223372036854775807 then (if 0 ≤ x8_2 then (if x8_2 ≤ x9_3 then (if x9_3 ≤ (t173.size : Int) then (if ((x6_1 ++ t183) ++ t184).size + (t173.extract (x8_2 : Int).toNat (x9_3 : Int).toNat).size ≤ 9223372036854775807 then (rematchref03_Diff.l0 k3 t173 (((x6_1 ++ t183) ++ t184) ++ (t173.extract (x8_2 : Int).toNat (x9_3 : Int).toNat)) x9_3) else (none)) else (none)) else (none)) else (none)) else (none))) else (none))) else (rematchref03_Diff.l2 k3 t173 x6_1 x7_1 x8_2 (wrap64 (x9_3 + 1))))) = some r := by rw [if_neg (show ¬ (false = true) by decide)] at H; exact H
                          clear H
                          have H := H1
                          clear H1
                          replace H := Option.bind_eq_some_iff.mp H
                          obtain ⟨t182, A410, H⟩ := H
                          replace H : (if t182 = true then ((rematchref01_Varint.f k3 (IntKind.u64.wrap (wrap64 (x8_2 - x7_1)))).bind fun t183 => (if x6_1.size + t183.size ≤ 9223372036854775807 then ((rematchref01_Varint.f k3 (IntKind.u64.wrap (wrap64 (x9_3 - x8_2)))).bind fun t184 => (if (x6_1 ++ t183).size + t184.size ≤ 9223372036854775807 then (if 0 ≤ x8_2 then (if x8_2 ≤ x9_3 then (if x9_3 ≤ (t173.size : Int) then (if ((x6_1 ++ t183) ++ t184).size + (t173.extract (x8_2 : Int).toNat (x9_3 : Int).toNat).size ≤ 9223372036854775807 then (rematchref03_Diff.l0 k3 t173 (((x6_1 ++ t183) ++ t184) ++ (t173.extract (x8_2 : Int).toNat (x9_3 : Int).toNat)) x9_3) else (none)) else (none)) else (none)) else (none)) else (none))) else (none))) else (rematchref03_Diff.l2 k3 t173 x6_1 x7_1 x8_2 (wrap64 (x9_3 + 1)))) = some r := H
                          have A41 := Aside0.mk A410
                          clear A410
                          by_cases c42 : t182 = true
                          · subst c42
                            have H1 : ((rematchref01_Varint.f k3 (IntKind.u64.wrap (wrap64 (x8_2 - x7_1)))).bind fun t183 => (if x6_1.size + t183.size ≤ 9223372036854775807 then ((rematchref01_Varint.f k3 (IntKind.u64.wrap (wrap64 (x9_3 - x8_2)))).bind fun t184 => (if (x6_1 ++ t183).size + t184.size ≤ 9223372036854775807 then (if 0 ≤ x8_2 then (if x8_2 ≤ x9_3 then (if x9_3 ≤ (t173.size : Int) then (if ((x6_1 ++ t183) ++ t184).size + (t173.extract (x8_2 : Int).toNat (x9_3 : Int).toNat).size ≤ 9223372036854775807 then (rematchref03_Diff.l0 k3 t173 (((x6_1 ++ t183) ++ t184) ++ (t173.extract (x8_2 : Int).toNat (x9_3 : Int).toNat)) x9_3) else (none)) else (none)) else (none)) else (none)) else (none))) else (none))) = some r := by rw [if_pos rfl] at H; exact H
                            clear H
                            have H := H1
                            clear H1
                            replace H := Option.bind_eq_some_iff.mp H
                            obtain ⟨t183, A430, H⟩ := H
                            replace H : (if x6_1.size + t183.size ≤ 9223372036854775807 then ((rematchref01_Varint.f k3 (IntKind.u64.wrap (wrap64 (x9_3 - x8_2)))).bind fun t184 => (if (x6_1 ++ t183).size + t184.size ≤ 9223372036854775807 then (if 0 ≤ x8_2 then (if x8_2 ≤ x9_3 then (if x9_3 ≤ (t173.size : Int) then (if ((x6_1 ++ t183) ++ t184).size + (t173.extract (x8_2 : Int).toNat (x9_3 : Int).toNat).size ≤ 9223372036854775807 then (rematchref03_Diff.l0 k3 t173 (((x6_1 ++ t183) ++ t184) ++ (t173.extract (x8_2 : Int).toNat (x9_3 : Int).toNat)) x9_3) else (none)) else (none)) else (none)) else (none)) else (none))) else (none)) = some r := H
                            have A43 := Aside0.mk A430
                            clear A430
                            by_cases c44 : x6_1.size + t183.size ≤ 9223372036854775807
                            · rw [if_pos c44] at H
                              have c44b0 := eq_true c44
                              have c44b1 : decide (x6_1.size + t183.size ≤ 9223372036854775807) = true := decide_eq_true c44
                              try have c44b2 : (9223372036854775807 < x6_1.size + t183.size) = False := eq_false (Nat.not_lt.2 c44)
                              replace H := Option.bind_eq_some_iff.mp H
                              obtain ⟨t184, A450, H⟩ := H
                              replace H : (if (x6_1 ++ t183).size + t184.size ≤ 9223372036854775807 then (if 0 ≤ x8_2 then (if x8_2 ≤ x9_3 then (if x9_3 ≤ (t173.size : Int) then (if ((x6_1 ++ t183) ++ t184).size + (t173.extract (x8_2 : Int).toNat (x9_3 : Int).toNat).size ≤ 9223372036854775807 then (rematchref03_Diff.l0 k3 t173 (((x6_1 ++ t183) ++ t184) ++ (t173.extract (x8_2 : Int).toNat (x9_3 : Int).toNat)) x9_3) else (none)) else (none)) else (none)) else (none)) else (none)) = some r := H
                              have A45 := Aside0.mk A450
                              clear A450
                              by_cases c46 : (x6_1 ++ t183).size + t184.size ≤ 9223372036854775807
                              · rw [if_pos c46] at H
                                have c46b0 := eq_true c46
                                have c46b1 : decide ((x6_1 ++ t183).size + t184.size ≤ 9223372036854775807) = true := decide_eq_true c46
                                try have c46b2 : (9223372036854775807 < (x6_1 ++ t183).size + t184.size) = False := eq_false (Nat.not_lt.2 c46)
                                (try (have c46b3 := c46b2; simp only [ByteArray.size_append] at c46b3))
                                by_cases c47 : 0 ≤ x8_2
                                · rw [if_pos c47] at H
                                  have c47b0 := eq_true c47
                                  have c47b1 : decide (0 ≤ x8_2) = true := decide_eq_true c47
                                  clear c47
                                  by_cases c48 : x8_2 ≤ x9_3
                                  · rw [if_pos c48] at H
                                    have c48b0 := eq_true c48
                                    have c48b1 : decide (x8_2 ≤ x9_3) = true := decide_eq_true c48
                                    clear c48
                                    by_cases c49 : x9_3 ≤ (t173.size : Int)
                                    · rw [if_pos c49] at H
                                      have c49b0 := eq_true c49
                                      have c49b1 : decide (x9_3 ≤ (t173.size : Int)) = true := decide_eq_true c49
                                      clear c49
                                      by_cases c50 : ((x6_1 ++ t183) ++ t184).size + (t173.extract (x8_2 : Int).toNat (x9_3 : Int).toNat).size ≤ 9223372036854775807
                                      · rw [if_pos c50] at H
                                        have c50b0 := eq_true c50
                                        have c50b1 : decide (((x6_1 ++ t183) ++ t184).size + (t173.extract (x8_2 : Int).toNat (x9_3 : Int).toNat).size ≤ 9223372036854775807) = true := decide_eq_true c50
                                        try have c50b2 : (9223372036854775807 < ((x6_1 ++ t183) ++ t184).size + (t173.extract (x8_2 : Int).toNat (x9_3 : Int).toNat).size) = False := eq_false (Nat.not_lt.2 c50)
                                        have c50b5 : (9223372036854775807 < x6_1.size + t183.size + t184.size + (x9_3.toNat - x8_2.toNat)) = False := by
                                          refine eq_false (Nat.not_lt.2 ?_)
                                          have q6 := of_decide_eq_true c49b1
                                          have q7 := c50
                                          simp only [ByteArray.size_append, ByteArray.size_extract] at q7
                                          omega
                                        (try (have c50b3 := c50b2; simp only [ByteArray.size_append] at c50b3))
                                        have H' := Aside0.mk H
                                        clear H
                                        try go_wp2_with (first | (go_at_call 23; (with_reducible refine (rematchref03_zero.calls k3 t173 x9_3 4 false _ A14.out).mono ?_); rintro e w' ⟨rfl, ⟨nd, rfl⟩⟩) | (go_at_call 23; (with_reducible refine (rematchref03_zero.calls k3 t173 x9_3 (t173.size : Int) true _ A41.out).mono ?_); rintro e w' ⟨rfl, ⟨nd, rfl⟩⟩))
                                        (try (rw [drewN_self wr]; generalize hq_ : World.drewN wr _ = wr; have n0_ : Aside0 (Below w.heap.size w wr) := ⟨by rw [← hq_]; exact (by repeat (first | (with_reducible first | exact HB.out | apply below_alloc | apply pw_below_drewN | apply below_drew1) | exact HB.out))⟩; clear HB hq_; have HB := n0_; clear n0_))
                                        have n0_ := Aside0.mk (below_drew1 HB.out)
                                        clear HB
                                        have HB := n0_
                                        clear n0_
                                        refine start_ (n := 19) (S := fun w' => True) (ds := []) #[false, false, false, false, false, false, false, false, false, false, false, false, false, false, false, false, false, false, false] (by kernel_rfl) rfl rfl trivial (fun hHeld => ?_); refine with_tabW rematchref03_Diff.tab11 rematchref03_Diff.bits11 (fun HT_ HW_ => ?_)
                                        generalize wr.drew = w51 at HB hHeld ⊢
                                        refine pure_ (i := 0) (N := some 58) (v := ?_) (a' := ?_) #[true, false, false, false, false, false, false, false, false, false, false, false, false, false, false, false, false, false, false] rfl rfl (any_of HT_.out (by kernel_rfl)) (fun _ _ _ h => h) (Or.inl ⟨by rfl, ?_⟩) ?_ ?_
                                        rotate_left
                                        · intro w'
                                          go_simp
                                          with_reducible rfl
                                        rotate_left
                                        · simp only [Act.put, List.setIfInBounds_toArray, List.set_cons_zero, List.set_cons_succ, i64_w, i32_w]
                                          rfl
                                        refine pure_ (i := 1) (N := some 59) (v := ?_) (a' := ?_) #[true, true, false, false, false, false, false, false, false, false, false, false, false, false, false, false, false, false, false] rfl rfl (any_of HT_.out (by kernel_rfl)) (fun _ _ _ h => h) (Or.inl ⟨by rfl, ?_⟩) ?_ ?_
                                        rotate_left
                                        · intro w'
                                          go_simp
                                          with_reducible rfl
                                        rotate_left
                                        · simp only [Act.put, List.setIfInBounds_toArray, List.set_cons_zero, List.set_cons_succ, i64_w, i32_w]
                                          rfl
                                        refine pure_ (i := 2) (N := some 60) (v := ?_) (a' := ?_) #[true, true, true, false, false, false, false, false, false, false, false, false, false, false, false, false, false, false, false] rfl rfl (any_of HT_.out (by kernel_rfl)) (fun _ _ _ h => h) (Or.inl ⟨by rfl, ?_⟩) ?_ ?_
                                        rotate_left
                                        · intro w'
                                          go_simp
                                          with_reducible rfl
                                        rotate_left
                                        · simp only [Act.put, List.setIfInBounds_toArray, List.set_cons_zero, List.set_cons_succ, i64_w, i32_w]
                                          rfl
                                        refine pure_ (i := 3) (N := some 61) (v := ?_) (a' := ?_) #[true, true, true, true, false, false, false, false, false, false, false, false, false, false, false, false, false, false, false] rfl rfl (any_of HT_.out (by kernel_rfl)) (fun _ _ _ h => h) (Or.inl ⟨by rfl, ?_⟩) ?_ ?_
                                        rotate_left
                                        · intro w'
                                          go_simp
                                          with_reducible rfl
                                        rotate_left
                                        · simp only [Act.put, List.setIfInBounds_toArray, List.set_cons_zero, List.set_cons_succ, i64_w, i32_w]
                                          rfl
                                        refine pure_ (i := 4) (N := some 62) (v := ?_) (a' := ?_) #[true, true, true, true, true, false, false, false, false, false, false, false, false, false, false, false, false, false, false] rfl rfl (any_of HT_.out (by kernel_rfl)) (fun _ _ _ h => h) (Or.inl ⟨by rfl, ?_⟩) ?_ ?_
                                        rotate_left
                                        · intro w'
                                          go_simp
                                          with_reducible rfl
                                        rotate_left
                                        · simp only [Act.put, List.setIfInBounds_toArray, List.set_cons_zero, List.set_cons_succ, i64_w, i32_w]
                                          rfl
                                        refine pure_ (i := 7) (N := some 65) (v := ?_) (a' := ?_) #[true, true, true, true, true, false, false, true, false, false, false, false, false, false, false, false, false, false, false] rfl rfl (any_of HT_.out (by kernel_rfl)) (fun _ _ _ h => h) (Or.inl ⟨by rfl, ?_⟩) ?_ ?_
                                        rotate_left
                                        · intro w'
                                          go_simp
                                          with_reducible rfl
                                        rotate_left
                                        · simp only [Act.put, List.setIfInBounds_toArray, List.set_cons_zero, List.set_cons_succ, i64_w, i32_w]
                                          rfl
                                        refine pure_ (i := 8) (N := some 66) (v := ?_) (a' := ?_) #[true, true, true, true, true, false, false, true, true, false, false, false, false, false, false, false, false, false, false] rfl rfl (any_of HT_.out (by kernel_rfl)) (fun _ _ _ h => h) (Or.inl ⟨by rfl, ?_⟩) ?_ ?_
                                        rotate_left
                                        · intro w'
                                          go_simp
                                          with_reducible rfl
                                        rotate_left
                                        · simp only [Act.put, List.setIfInBounds_toArray, List.set_cons_zero, List.set_cons_succ, i64_w, i32_w]
                                          rfl
                                        refine pure_ (i := 9) (N := some 67) (v := ?_) (a' := ?_) #[true, true, true, true, true, false, false, true, true, true, false, false, false, false, false, false, false, false, false] rfl rfl (any_of HT_.out (by kernel_rfl)) (fun _ _ _ h => h) (Or.inl ⟨by rfl, ?_⟩) ?_ ?_
                                        rotate_left
                                        · intro w'
                                          go_simp
                                          with_reducible rfl
                                        rotate_left
                                        · simp only [Act.put, List.setIfInBounds_toArray, List.set_cons_zero, List.set_cons_succ, i64_w, i32_w]
                                          rfl
                                        refine pure_ (i := 10) (N := some 68) (v := ?_) (a' := ?_) #[true, true, true, true, true, false, false, true, true, true, true, false, false, false, false, false, false, false, false] rfl rfl (any_of HT_.out (by kernel_rfl)) (fun _ _ _ h => h) (Or.inl ⟨by rfl, ?_⟩) ?_ ?_
                                        rotate_left
                                        · intro w'
                                          go_simp
                                          with_reducible rfl
                                        rotate_left
                                        · simp only [Act.put, List.setIfInBounds_toArray, List.set_cons_zero, List.set_cons_succ, i64_w, i32_w]
                                          rfl
                                        refine pure_ (i := 13) (N := some 71) (v := ?_) (a' := ?_) #[true, true, true, true, true, false, false, true, true, true, true, false, false, true, false, false, false, false, false] rfl rfl (any_of HT_.out (by kernel_rfl)) (fun _ _ _ h => h) (Or.inl ⟨by rfl, ?_⟩) ?_ ?_
                                        rotate_left
                                        · intro w'
                                          go_simp
                                          with_reducible rfl
                                        rotate_left
                                        · simp only [Act.put, List.setIfInBounds_toArray, List.set_cons_zero, List.set_cons_succ, i64_w, i32_w]
                                          rfl
                                        refine pure_ (i := 14) (N := some 72) (v := ?_) (a' := ?_) #[true, true, true, true, true, false, false, true, true, true, true, false, false, true, true, false, false, false, false] rfl rfl (any_of HT_.out (by kernel_rfl)) (fun _ _ _ h => h) (Or.inl ⟨by rfl, ?_⟩) ?_ ?_
                                        rotate_left
                                        · intro w'
                                          go_simp
                                          with_reducible rfl
                                        rotate_left
                                        · simp only [Act.put, List.setIfInBounds_toArray, List.set_cons_zero, List.set_cons_succ, i64_w, i32_w]
                                          rfl
                                        refine pure_ (i := 15) (N := some 73) (v := ?_) (a' := ?_) #[true, true, true, true, true, false, false, true, true, true, true, false, false, true, true, true, false, false, false] rfl rfl (any_of HT_.out (by kernel_rfl)) (fun _ _ _ h => h) (Or.inl ⟨by rfl, ?_⟩) ?_ ?_
                                        rotate_left
                                        · intro w'
                                          go_simp
                                          with_reducible rfl
                                        rotate_left
                                        · simp only [Act.put, List.setIfInBounds_toArray, List.set_cons_zero, List.set_cons_succ, i64_w, i32_w]
                                          rfl
                                        refine pure_ (i := 16) (N := some 74) (v := ?_) (a' := ?_) #[true, true, true, true, true, false, false, true, true, true, true, false, false, true, true, true, true, false, false] rfl rfl (any_of HT_.out (by kernel_rfl)) (fun _ _ _ h => h) (Or.inl ⟨by rfl, ?_⟩) ?_ ?_
                                        rotate_left
                                        · intro w'
                                          go_simp
                                          with_reducible rfl
                                        rotate_left
                                        · simp only [Act.put, List.setIfInBounds_toArray, List.set_cons_zero, List.set_cons_succ, i64_w, i32_w]
                                          rfl
                                        refine one_ (i := 5) (N := some 63) #[true, true, true, true, true, true, false, true, true, true, true, false, false, true, true, true, true, false, false] rfl rfl (one_of HT_.out (by kernel_rfl)) (by decide) (fun K hK => ?_)
                                        refine goes_ Try.func22 (by kernel_rfl) rfl #[.int .u64 (IntKind.u64.wrap (wrap64 (x8_2 - x7_1)))] (by rfl) rfl rfl (by (try simp only [List.map_toArray, List.map_cons, List.map_nil]); first | done | rfl | (simp only [List.length_drop, List.length_take]; rfl)) ?_
                                        with_reducible refine (rematchref01_Varint.calls k3 (IntKind.u64.wrap (wrap64 (x8_2 - x7_1))) t183 _ A43.out).mono ?_
                                        rintro e w52 ⟨rfl, hb⟩
                                        refine ⟨_, rfl, ?_⟩
                                        have n0_ := Aside0.mk (below_step (by repeat (first | (with_reducible first | exact HB.out | apply below_alloc | apply pw_below_drewN | apply below_drew1) | exact HB.out)) hb)
                                        clear HB
                                        have HB := n0_
                                        clear n0_
                                        (try clear hb)
                                        (try clear hb2)
                                        (try clear hk)
                                        (try clear hi)
                                        refine hK.out _ _ trivial (fun hHeld => ?_)
                                        clear hK K
                                        refine norm_ (a' := ?_) ?_ ?_
                                        rotate_left
                                        · show Act.put _ (some 63) _ = _
                                          simp only [Act.put, List.setIfInBounds_toArray, List.set_cons_zero, List.set_cons_succ, i64_w, i32_w]
                                          rfl
                                        refine pure_ (i := 6) (N := some 64) (v := ?_) (a' := ?_) #[true, true, true, true, true, true, true, true, true, true, true, false, false, true, true, true, true, false, false] rfl rfl (any_of HT_.out (by kernel_rfl)) (fun _ _ _ h => h) (Or.inl ⟨by rfl, ?_⟩) ?_ ?_
                                        rotate_left
                                        · intro w'
                                          go_simp
                                          with_reducible rfl
                                        rotate_left
                                        · simp only [Act.put, List.setIfInBounds_toArray, List.set_cons_zero, List.set_cons_succ, i64_w, i32_w]
                                          rfl
                                        refine one_ (i := 11) (N := some 69) #[true, true, true, true, true, true, true, true, true, true, true, true, false, true, true, true, true, false, false] rfl rfl (one_of HT_.out (by kernel_rfl)) (by decide) (fun K hK => ?_)
                                        refine goes_ Try.func22 (by kernel_rfl) rfl #[.int .u64 (IntKind.u64.wrap (wrap64 (x9_3 - x8_2)))] (by rfl) rfl rfl (by (try simp only [List.map_toArray, List.map_cons, List.map_nil]); first | done | rfl | (simp only [List.length_drop, List.length_take]; rfl)) ?_
                                        with_reducible refine (rematchref01_Varint.calls k3 (IntKind.u64.wrap (wrap64 (x9_3 - x8_2))) t184 _ A45.out).mono ?_
                                        rintro e w53 ⟨rfl, hb⟩
                                        refine ⟨_, rfl, ?_⟩
                                        have n0_ := Aside0.mk (below_step (by repeat (first | (with_reducible first | exact HB.out | apply below_alloc | apply pw_below_drewN | apply below_drew1) | exact HB.out)) hb)
                                        clear HB
                                        have HB := n0_
                                        clear n0_
                                        (try clear hb)
                                        (try clear hb2)
                                        (try clear hk)
                                        (try clear hi)
                                        refine hK.out _ _ trivial (fun hHeld => ?_)
                                        clear hK K
                                        refine norm_ (a' := ?_) ?_ ?_
                                        rotate_left
                                        · show Act.put _ (some 69) _ = _
                                          simp only [Act.put, List.setIfInBounds_toArray, List.set_cons_zero, List.set_cons_succ, i64_w, i32_w]
                                          rfl
                                        refine pure_ (i := 12) (N := some 70) (v := ?_) (a' := ?_) #[true, true, true, true, true, true, true, true, true, true, true, true, true, true, true, true, true, false, false] rfl rfl (any_of HT_.out (by kernel_rfl)) (fun _ _ _ h => h) (Or.inl ⟨by rfl, ?_⟩) ?_ ?_
                                        rotate_left
                                        · intro w'
                                          go_simp
                                          with_reducible rfl
                                        rotate_left
                                        · simp only [Act.put, List.setIfInBounds_toArray, List.set_cons_zero, List.set_cons_succ, i64_w, i32_w]
                                          rfl
                                        refine pure_ (i := 17) (N := some 75) (v := ?_) (a' := ?_) #[true, true, true, true, true, true, true, true, true, true, true, true, true, true, true, true, true, true, false] rfl rfl (any_of HT_.out (by kernel_rfl)) (fun _ _ _ h => h) (Or.inl ⟨by rfl, ?_⟩) ?_ ?_
                                        rotate_left
                                        · intro w'
                                          go_simp
                                          with_reducible rfl
                                        rotate_left
                                        · simp only [Act.put, List.setIfInBounds_toArray, List.set_cons_zero, List.set_cons_succ, i64_w, i32_w]
                                          rfl
                                        refine pure_ (i := 18) (N := some 6) (v := ?_) (a' := ?_) #[true, true, true, true, true, true, true, true, true, true, true, true, true, true, true, true, true, true, true] rfl rfl (any_of HT_.out (by kernel_rfl)) (fun _ _ _ h => h) (Or.inl ⟨by rfl, ?_⟩) ?_ ?_
                                        rotate_left
                                        · intro w'
                                          go_simp
                                          with_reducible rfl
                                        rotate_left
                                        · simp only [Act.put, List.setIfInBounds_toArray, List.set_cons_zero, List.set_cons_succ, i64_w, i32_w]
                                          rfl
                                        refine done_ (done_of HT_.out (by kernel_rfl)) ?_
                                        try go_wp2
                                        go_roundg k3
                                        case measure => have := HK1.out; have := HK2.out; have := HK3.out; omega
                                        case rel => exact ⟨(((x6_1 ++ t183) ++ t184) ++ (t173.extract (x8_2 : Int).toNat (x9_3 : Int).toNat)), (x9_3), (by first | rfl | (simp; done) | (simp [*]; done)), (by first | rfl | (simp; done) | (simp [*]; done)), H', ⟨by have := HK1.out; have := HK2.out; have := HK3.out; omega⟩, ⟨by repeat (first | (with_reducible first | exact HB.out | apply below_alloc | apply pw_below_drewN | apply below_drew1) | exact HB.out)⟩⟩
                                      · rw [if_neg c50] at H
                                        exact absurd H (by simp)
                                    · rw [if_neg c49] at H
                                      exact absurd H (by simp)
                                  · rw [if_neg c48] at H
                                    exact absurd H (by simp)
                                · rw [if_neg c47] at H
                                  exact absurd H (by simp)
                              · rw [if_neg c46] at H
                                exact absurd H (by simp)
                            · rw [if_neg c44] at H
                              exact absurd H (by simp)
                          · replace c42 := Bool.eq_false_iff.mpr c42
                            subst c42
                            have H1 : (rematchref03_Diff.l2 k3 t173 x6_1 x7_1 x8_2 (wrap64 (x9_3 + 1))) = some r := by rw [if_neg (show ¬ (false = true) by decide)] at H; exact H
                            clear H
                            have H := H1
                            clear H1
                            have H' := Aside0.mk H
                            clear H
                            go_wp2_with (first | (go_at_call 23; (with_reducible refine (rematchref03_zero.calls k3 t173 x9_3 4 false _ A14.out).mono ?_); rintro e w' ⟨rfl, ⟨nd, rfl⟩⟩) | (go_at_call 23; (with_reducible refine (rematchref03_zero.calls k3 t173 x9_3 (t173.size : Int) false _ A41.out).mono ?_); rintro e w' ⟨rfl, ⟨nd, rfl⟩⟩))
                            go_roundg k3
                            case measure => have := HK1.out; have := HK2.out; have := HK3.out; omega
                            case rel => exact ⟨(wrap64 (x9_3 + 1)), (by first | rfl | (simp; done) | (simp [*]; done)), H', ⟨by have := HK1.out; have := HK2.out; have := HK3.out; omega⟩, ⟨by repeat (first | (with_reducible first | exact HB.out | apply below_alloc | apply pw_below_drewN | apply below_drew1) | exact HB.out)⟩⟩
                      · rw [if_neg c13] at H
                        have c13b0 : decide (x9_3 < (t173.size : Int)) = false := decide_eq_false c13
                        clear c13
                        replace H := Option.bind_eq_some_iff.mp H
                        obtain ⟨t185, A540, H⟩ := H
                        replace H : (if x6_1.size + t185.size ≤ 9223372036854775807 then ((rematchref01_Varint.f k3 (IntKind.u64.wrap (wrap64 (x9_3 - x8_2)))).bind fun t186 => (if (x6_1 ++ t185).size + t186.size ≤ 9223372036854775807 then (if 0 ≤ x8_2 then (if x8_2 ≤ x9_3 then (if x9_3 ≤ (t173.size : Int) then (if ((x6_1 ++ t185) ++ t186).size + (t173.extract (x8_2 : Int).toNat (x9_3 : Int).toNat).size ≤ 9223372036854775807 then (rematchref03_Diff.l0 k3 t173 (((x6_1 ++ t185) ++ t186) ++ (t173.extract (x8_2 : Int).toNat (x9_3 : Int).toNat)) x9_3) else (none)) else (none)) else (none)) else (none)) else (none))) else (none)) = some r := H
                        have A54 := Aside0.mk A540
                        clear A540
                        by_cases c55 : x6_1.size + t185.size ≤ 9223372036854775807
                        · rw [if_pos c55] at H
                          have c55b0 := eq_true c55
                          have c55b1 : decide (x6_1.size + t185.size ≤ 9223372036854775807) = true := decide_eq_true c55
                          try have c55b2 : (9223372036854775807 < x6_1.size + t185.size) = False := eq_false (Nat.not_lt.2 c55)
                          replace H := Option.bind_eq_some_iff.mp H
                          obtain ⟨t186, A560, H⟩ := H
                          replace H : (if (x6_1 ++ t185).size + t186.size ≤ 9223372036854775807 then (if 0 ≤ x8_2 then (if x8_2 ≤ x9_3 then (if x9_3 ≤ (t173.size : Int) then (if ((x6_1 ++ t185) ++ t186).size + (t173.extract (x8_2 : Int).toNat (x9_3 : Int).toNat).size ≤ 9223372036854775807 then (rematchref03_Diff.l0 k3 t173 (((x6_1 ++ t185) ++ t186) ++ (t173.extract (x8_2 : Int).toNat (x9_3 : Int).toNat)) x9_3) else (none)) else (none)) else (none)) else (none)) else (none)) = some r := H
                          have A56 := Aside0.mk A560
                          clear A560
                          by_cases c57 : (x6_1 ++ t185).size + t186.size ≤ 9223372036854775807
                          · rw [if_pos c57] at H
                            have c57b0 := eq_true c57
                            have c57b1 : decide ((x6_1 ++ t185).size + t186.size ≤ 9223372036854775807) = true := decide_eq_true c57
                            try have c57b2 : (9223372036854775807 < (x6_1 ++ t185).size + t186.size) = False := eq_false (Nat.not_lt.2 c57)
                            (try (have c57b3 := c57b2; simp only [ByteArray.size_append] at c57b3))
                            by_cases c58 : 0 ≤ x8_2
                            · rw [if_pos c58] at H
                              have c58b0 := eq_true c58
                              have c58b1 : decide (0 ≤ x8_2) = true := decide_eq_true c58
                              clear c58
                              by_cases c59 : x8_2 ≤ x9_3
                              · rw [if_pos c59] at H
                                have c59b0 := eq_true c59
                                have c59b1 : decide (x8_2 ≤ x9_3) = true := decide_eq_true c59
                                clear c59
                                by_cases c60 : x9_3 ≤ (t173.size : Int)
                                · rw [if_pos c60] at H
                                  have c60b0 := eq_true c60
                                  have c60b1 : decide (x9_3 ≤ (t173.size : Int)) = true := decide_eq_true c60
                                  clear c60
                                  by_cases c61 : ((x6_1 ++ t185) ++ t186).size + (t173.extract (x8_2 : Int).toNat (x9_3 : Int).toNat).size ≤ 9223372036854775807
                                  · rw [if_pos c61] at H
                                    have c61b0 := eq_true c61
                                    have c61b1 : decide (((x6_1 ++ t185) ++ t186).size + (t173.extract (x8_2 : Int).toNat (x9_3 : Int).toNat).size ≤ 9223372036854775807) = true := decide_eq_true c61
                                    try have c61b2 : (9223372036854775807 < ((x6_1 ++ t185) ++ t186).size + (t173.extract (x8_2 : Int).toNat (x9_3 : Int).toNat).size) = False := eq_false (Nat.not_lt.2 c61)
                                    have c61b5 : (9223372036854775807 < x6_1.size + t185.size + t186.size + (x9_3.toNat - x8_2.toNat)) = False := by
                                      refine eq_false (Nat.not_lt.2 ?_)
                                      have q6 := of_decide_eq_true c60b1
                                      have q7 := c61
                                      simp only [ByteArray.size_append, ByteArray.size_extract] at q7
                                      omega
                                    (try (have c61b3 := c61b2; simp only [ByteArray.size_append] at c61b3))
                                    have H' := Aside0.mk H
                                    clear H
                                    try go_wp2
                                    have n0_ := Aside0.mk (below_drew1 HB.out)
                                    clear HB
                                    have HB := n0_
                                    clear n0_
                                    refine start_ (n := 19) (S := fun w' => True) (ds := []) #[false, false, false, false, false, false, false, false, false, false, false, false, false, false, false, false, false, false, false] (by kernel_rfl) rfl rfl trivial (fun hHeld => ?_); refine with_tabW rematchref03_Diff.tab11 rematchref03_Diff.bits11 (fun HT_ HW_ => ?_)
                                    generalize wr.drew = w62 at HB hHeld ⊢
                                    refine pure_ (i := 0) (N := some 58) (v := ?_) (a' := ?_) #[true, false, false, false, false, false, false, false, false, false, false, false, false, false, false, false, false, false, false] rfl rfl (any_of HT_.out (by kernel_rfl)) (fun _ _ _ h => h) (Or.inl ⟨by rfl, ?_⟩) ?_ ?_
                                    rotate_left
                                    · intro w'
                                      go_simp
                                      with_reducible rfl
                                    rotate_left
                                    · simp only [Act.put, List.setIfInBounds_toArray, List.set_cons_zero, List.set_cons_succ, i64_w, i32_w]
                                      rfl
                                    refine pure_ (i := 1) (N := some 59) (v := ?_) (a' := ?_) #[true, true, false, false, false, false, false, false, false, false, false, false, false, false, false, false, false, false, false] rfl rfl (any_of HT_.out (by kernel_rfl)) (fun _ _ _ h => h) (Or.inl ⟨by rfl, ?_⟩) ?_ ?_
                                    rotate_left
                                    · intro w'
                                      go_simp
                                      with_reducible rfl
                                    rotate_left
                                    · simp only [Act.put, List.setIfInBounds_toArray, List.set_cons_zero, List.set_cons_succ, i64_w, i32_w]
                                      rfl
                                    refine pure_ (i := 2) (N := some 60) (v := ?_) (a' := ?_) #[true, true, true, false, false, false, false, false, false, false, false, false, false, false, false, false, false, false, false] rfl rfl (any_of HT_.out (by kernel_rfl)) (fun _ _ _ h => h) (Or.inl ⟨by rfl, ?_⟩) ?_ ?_
                                    rotate_left
                                    · intro w'
                                      go_simp
                                      with_reducible rfl
                                    rotate_left
                                    · simp only [Act.put, List.setIfInBounds_toArray, List.set_cons_zero, List.set_cons_succ, i64_w, i32_w]
                                      rfl
                                    refine pure_ (i := 3) (N := some 61) (v := ?_) (a' := ?_) #[true, true, true, true, false, false, false, false, false, false, false, false, false, false, false, false, false, false, false] rfl rfl (any_of HT_.out (by kernel_rfl)) (fun _ _ _ h => h) (Or.inl ⟨by rfl, ?_⟩) ?_ ?_
                                    rotate_left
                                    · intro w'
                                      go_simp
                                      with_reducible rfl
                                    rotate_left
                                    · simp only [Act.put, List.setIfInBounds_toArray, List.set_cons_zero, List.set_cons_succ, i64_w, i32_w]
                                      rfl
                                    refine pure_ (i := 4) (N := some 62) (v := ?_) (a' := ?_) #[true, true, true, true, true, false, false, false, false, false, false, false, false, false, false, false, false, false, false] rfl rfl (any_of HT_.out (by kernel_rfl)) (fun _ _ _ h => h) (Or.inl ⟨by rfl, ?_⟩) ?_ ?_
                                    rotate_left
                                    · intro w'
                                      go_simp
                                      with_reducible rfl
                                    rotate_left
                                    · simp only [Act.put, List.setIfInBounds_toArray, List.set_cons_zero, List.set_cons_succ, i64_w, i32_w]
                                      rfl
                                    refine pure_ (i := 7) (N := some 65) (v := ?_) (a' := ?_) #[true, true, true, true, true, false, false, true, false, false, false, false, false, false, false, false, false, false, false] rfl rfl (any_of HT_.out (by kernel_rfl)) (fun _ _ _ h => h) (Or.inl ⟨by rfl, ?_⟩) ?_ ?_
                                    rotate_left
                                    · intro w'
                                      go_simp
                                      with_reducible rfl
                                    rotate_left
                                    · simp only [Act.put, List.setIfInBounds_toArray, List.set_cons_zero, List.set_cons_succ, i64_w, i32_w]
                                      rfl
                                    refine pure_ (i := 8) (N := some 66) (v := ?_) (a' := ?_) #[true, true, true, true, true, false, false, true, true, false, false, false, false, false, false, false, false, false, false] rfl rfl (any_of HT_.out (by kernel_rfl)) (fun _ _ _ h => h) (Or.inl ⟨by rfl, ?_⟩) ?_ ?_
                                    rotate_left
                                    · intro w'
                                      go_simp
                                      with_reducible rfl
                                    rotate_left
                                    · simp only [Act.put, List.setIfInBounds_toArray, List.set_cons_zero, List.set_cons_succ, i64_w, i32_w]
                                      rfl
                                    refine pure_ (i := 9) (N := some 67) (v := ?_) (a' := ?_) #[true, true, true, true, true, false, false, true, true, true, false, false, false, false, false, false, false, false, false] rfl rfl (any_of HT_.out (by kernel_rfl)) (fun _ _ _ h => h) (Or.inl ⟨by rfl, ?_⟩) ?_ ?_
                                    rotate_left
                                    · intro w'
                                      go_simp
                                      with_reducible rfl
                                    rotate_left
                                    · simp only [Act.put, List.setIfInBounds_toArray, List.set_cons_zero, List.set_cons_succ, i64_w, i32_w]
                                      rfl
                                    refine pure_ (i := 10) (N := some 68) (v := ?_) (a' := ?_) #[true, true, true, true, true, false, false, true, true, true, true, false, false, false, false, false, false, false, false] rfl rfl (any_of HT_.out (by kernel_rfl)) (fun _ _ _ h => h) (Or.inl ⟨by rfl, ?_⟩) ?_ ?_
                                    rotate_left
                                    · intro w'
                                      go_simp
                                      with_reducible rfl
                                    rotate_left
                                    · simp only [Act.put, List.setIfInBounds_toArray, List.set_cons_zero, List.set_cons_succ, i64_w, i32_w]
                                      rfl
                                    refine pure_ (i := 13) (N := some 71) (v := ?_) (a' := ?_) #[true, true, true, true, true, false, false, true, true, true, true, false, false, true, false, false, false, false, false] rfl rfl (any_of HT_.out (by kernel_rfl)) (fun _ _ _ h => h) (Or.inl ⟨by rfl, ?_⟩) ?_ ?_
                                    rotate_left
                                    · intro w'
                                      go_simp
                                      with_reducible rfl
                                    rotate_left
                                    · simp only [Act.put, List.setIfInBounds_toArray, List.set_cons_zero, List.set_cons_succ, i64_w, i32_w]
                                      rfl
                                    refine pure_ (i := 14) (N := some 72) (v := ?_) (a' := ?_) #[true, true, true, true, true, false, false, true, true, true, true, false, false, true, true, false, false, false, false] rfl rfl (any_of HT_.out (by kernel_rfl)) (fun _ _ _ h => h) (Or.inl ⟨by rfl, ?_⟩) ?_ ?_
                                    rotate_left
                                    · intro w'
                                      go_simp
                                      with_reducible rfl
                                    rotate_left
                                    · simp only [Act.put, List.setIfInBounds_toArray, List.set_cons_zero, List.set_cons_succ, i64_w, i32_w]
                                      rfl
                                    refine pure_ (i := 15) (N := some 73) (v := ?_) (a' := ?_) #[true, true, true, true, true, false, false, true, true, true, true, false, false, true, true, true, false, false, false] rfl rfl (any_of HT_.out (by kernel_rfl)) (fun _ _ _ h => h) (Or.inl ⟨by rfl, ?_⟩) ?_ ?_
                                    rotate_left
                                    · intro w'
                                      go_simp
                                      with_reducible rfl
                                    rotate_left
                                    · simp only [Act.put, List.setIfInBounds_toArray, List.set_cons_zero, List.set_cons_succ, i64_w, i32_w]
                                      rfl
                                    refine pure_ (i := 16) (N := some 74) (v := ?_) (a' := ?_) #[true, true, true, true, true, false, false, true, true, true, true, false, false, true, true, true, true, false, false] rfl rfl (any_of HT_.out (by kernel_rfl)) (fun _ _ _ h => h) (Or.inl ⟨by rfl, ?_⟩) ?_ ?_
                                    rotate_left
                                    · intro w'
                                      go_simp
                                      with_reducible rfl
                                    rotate_left
                                    · simp only [Act.put, List.setIfInBounds_toArray, List.set_cons_zero, List.set_cons_succ, i64_w, i32_w]
                                      rfl
                                    refine one_ (i := 5) (N := some 63) #[true, true, true, true, true, true, false, true, true, true, true, false, false, true, true, true, true, false, false] rfl rfl (one_of HT_.out (by kernel_rfl)) (by decide) (fun K hK => ?_)
                                    refine goes_ Try.func22 (by kernel_rfl) rfl #[.int .u64 (IntKind.u64.wrap (wrap64 (x8_2 - x7_1)))] (by rfl) rfl rfl (by (try simp only [List.map_toArray, List.map_cons, List.map_nil]); first | done | rfl | (simp only [List.length_drop, List.length_take]; rfl)) ?_
                                    with_reducible refine (rematchref01_Varint.calls k3 (IntKind.u64.wrap (wrap64 (x8_2 - x7_1))) t185 _ A54.out).mono ?_
                                    rintro e w63 ⟨rfl, hb⟩
                                    refine ⟨_, rfl, ?_⟩
                                    have n0_ := Aside0.mk (below_step (by repeat (first | (with_reducible first | exact HB.out | apply below_alloc | apply pw_below_drewN | apply below_drew1) | exact HB.out)) hb)
                                    clear HB
                                    have HB := n0_
                                    clear n0_
                                    (try clear hb)
                                    (try clear hb2)
                                    (try clear hk)
                                    (try clear hi)
                                    refine hK.out _ _ trivial (fun hHeld => ?_)
                                    clear hK K
                                    refine norm_ (a' := ?_) ?_ ?_
                                    rotate_left
                                    · show Act.put _ (some 63) _ = _
                                      simp only [Act.put, List.setIfInBounds_toArray, List.set_cons_zero, List.set_cons_succ, i64_w, i32_w]
                                      rfl
                                    refine pure_ (i := 6) (N := some 64) (v := ?_) (a' := ?_) #[true, true, true, true, true, true, true, true, true, true, true, false, false, true, true, true, true, false, false] rfl rfl (any_of HT_.out (by kernel_rfl)) (fun _ _ _ h => h) (Or.inl ⟨by rfl, ?_⟩) ?_ ?_
                                    rotate_left
                                    · intro w'
                                      go_simp
                                      with_reducible rfl
                                    rotate_left
                                    · simp only [Act.put, List.setIfInBounds_toArray, List.set_cons_zero, List.set_cons_succ, i64_w, i32_w]
                                      rfl
                                    refine one_ (i := 11) (N := some 69) #[true, true, true, true, true, true, true, true, true, true, true, true, false, true, true, true, true, false, false] rfl rfl (one_of HT_.out (by kernel_rfl)) (by decide) (fun K hK => ?_)
                                    refine goes_ Try.func22 (by kernel_rfl) rfl #[.int .u64 (IntKind.u64.wrap (wrap64 (x9_3 - x8_2)))] (by rfl) rfl rfl (by (try simp only [List.map_toArray, List.map_cons, List.map_nil]); first | done | rfl | (simp only [List.length_drop, List.length_take]; rfl)) ?_
                                    with_reducible refine (rematchref01_Varint.calls k3 (IntKind.u64.wrap (wrap64 (x9_3 - x8_2))) t186 _ A56.out).mono ?_
                                    rintro e w64 ⟨rfl, hb⟩
                                    refine ⟨_, rfl, ?_⟩
                                    have n0_ := Aside0.mk (below_step (by repeat (first | (with_reducible first | exact HB.out | apply below_alloc | apply pw_below_drewN | apply below_drew1) | exact HB.out)) hb)
                                    clear HB
                                    have HB := n0_
                                    clear n0_
                                    (try clear hb)
                                    (try clear hb2)
                                    (try clear hk)
                                    (try clear hi)
                                    refine hK.out _ _ trivial (fun hHeld => ?_)
                                    clear hK K
                                    refine norm_ (a' := ?_) ?_ ?_
                                    rotate_left
                                    · show Act.put _ (some 69) _ = _
                                      simp only [Act.put, List.setIfInBounds_toArray, List.set_cons_zero, List.set_cons_succ, i64_w, i32_w]
                                      rfl
                                    refine pure_ (i := 12) (N := some 70) (v := ?_) (a' := ?_) #[true, true, true, true, true, true, true, true, true, true, true, true, true, true, true, true, true, false, false] rfl rfl (any_of HT_.out (by kernel_rfl)) (fun _ _ _ h => h) (Or.inl ⟨by rfl, ?_⟩) ?_ ?_
                                    rotate_left
                                    · intro w'
                                      go_simp
                                      with_reducible rfl
                                    rotate_left
                                    · simp only [Act.put, List.setIfInBounds_toArray, List.set_cons_zero, List.set_cons_succ, i64_w, i32_w]
                                      rfl
                                    refine pure_ (i := 17) (N := some 75) (v := ?_) (a' := ?_) #[true, true, true, true, true, true, true, true, true, true, true, true, true, true, true, true, true, true, false] rfl rfl (any_of HT_.out (by kernel_rfl)) (fun _ _ _ h => h) (Or.inl ⟨by rfl, ?_⟩) ?_ ?_
                                    rotate_left
                                    · intro w'
                                      go_simp
                                      with_reducible rfl
                                    rotate_left
                                    · simp only [Act.put, List.setIfInBounds_toArray, List.set_cons_zero, List.set_cons_succ, i64_w, i32_w]
                                      rfl
                                    refine pure_ (i := 18) (N := some 6) (v := ?_) (a' := ?_) #[true, true, true, true, true, true, true, true, true, true, true, true, true, true, true, true, true, true, true] rfl rfl (any_of HT_.out (by kernel_rfl)) (fun _ _ _ h => h) (Or.inl ⟨by rfl, ?_⟩) ?_ ?_
                                    rotate_left
                                    · intro w'
                                      go_simp
                                      with_reducible rfl
                                    rotate_left
                                    · simp only [Act.put, List.setIfInBounds_toArray, List.set_cons_zero, List.set_cons_succ, i64_w, i32_w]
                                      rfl
                                    refine done_ (done_of HT_.out (by kernel_rfl)) ?_
                                    try go_wp2
                                    go_roundg k3
                                    case measure => have := HK1.out; have := HK2.out; have := HK3.out; omega
                                    case rel => exact ⟨(((x6_1 ++ t185) ++ t186) ++ (t173.extract (x8_2 : Int).toNat (x9_3 : Int).toNat)), (x9_3), (by first | rfl | (simp; done) | (simp [*]; done)), (by first | rfl | (simp; done) | (simp [*]; done)), H', ⟨by have := HK1.out; have := HK2.out; have := HK3.out; omega⟩, ⟨by repeat (first | (with_reducible first | exact HB.out | apply below_alloc | apply pw_below_drewN | apply below_drew1) | exact HB.out)⟩⟩
                                  · rw [if_neg c61] at H
                                    exact absurd H (by simp)
                                · rw [if_neg c60] at H
                                  exact absurd H (by simp)
                              · rw [if_neg c59] at H
                                exact absurd H (by simp)
                            · rw [if_neg c58] at H
                              exact absurd H (by simp)
                          · rw [if_neg c57] at H
                            exact absurd H (by simp)
                        · rw [if_neg c55] at H
                          exact absurd H (by simp)
              · rw [if_neg c10] at H
                exact absurd H (by simp)
            · rw [if_neg c9] at H
              exact absurd H (by simp)

end Go.Proofs.Ytocadookdkmahaa.PDeltaDiffs
