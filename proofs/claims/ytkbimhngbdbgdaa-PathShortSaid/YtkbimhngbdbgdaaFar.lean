/- Path: how much farther than near a tile is (search.far). No condition. -/
import Derived.Test.YtkbimhngbdbgdaaPMap
namespace Go.Proofs.Ytkbimhngbdbgdaa.PPathFinds
open Go.RowKit Go.Proofs.YtkbimhngbdbgdaaW.PrintWords Go.Proofs.YtkbimhngbdbgdaaW.PrintLast Go.Proofs.YtkbimhngbdbgdaaW.PrintMore
attribute [local go_sem] max2_int min2_int max_two min_two max_three min_three max_four min_four   -- for this text's walks alone
set_option linter.unusedVariables false
set_option linter.unusedSimpArgs false
set_option maxHeartbeats 4000000
set_option maxRecDepth 20000
theorem far_calls (k : Nat) (w W : World) (g : Nat) (q : SP) (v : Value) (l : List S51) (t d fv : Int) (hfv : (if q.near < d then d - q.near else 0) = fv) (hd : grid_Map_Far.f k q.mw q.mh q.ms t q.goal = some d) (h1 : -1 ≤ d ∧ d ≤ 100000) (h2 : 0 ≤ q.near ∧ q.near ≤ 9223372036854775807) (H : Hp w W g q v l) :
    Calls Try.prog 29 #[.pointer (some ⟨g, 0, none⟩), .int .i64 t] W fun e W' => e = .returned (.int .i64 fv) ∧ Below W.heap.size W W' := by
  have HP := Lib.hid H
  have FC := Lib.hid (fun W' => grid_Map_Far.calls k q.mw q.mh q.ms t q.goal d W' hd)
  clear H hd
  go_enter Try.func29, Try.ntmps29
  try go_wp2
  refine wp_region_inv (fun a0 w_0 b a' w' => ∃ x5 x6 x7 x8 x9 x10 x11 x12 x13 x14 x15 x16 x17 x18 x19 x20 x4 : Value, a' = (((((((((((((((((a0.put (some 5) x5).put (some 6) x6).put (some 7) x7).put (some 8) x8).put (some 9) x9).put (some 10) x10).put (some 11) x11).put (some 12) x12).put (some 13) x13).put (some 14) x14).put (some 15) x15).put (some 16) x16).put (some 17) x17).put (some 18) x18).put (some 19) x19).put (some 20) x20).put (some 4) x4) ∧ Below W.heap.size W w' ∧ (b 16 = true → x4 = .int .i64 fv) ∧ (b 0 = true → x5 = .pointer (some ⟨g, 0, none⟩)) ∧ (b 1 = true → x6 = .pointer (some ⟨g, 0, none⟩)) ∧ (b 2 = true → x7 = .pointer (some ⟨g, 0, none⟩)) ∧ (b 3 = true → x8 = .agg #[.int .i64 q.mw, .int .i64 q.mh, .string q.ms]) ∧ (b 4 = true → x9 = .int .i64 t) ∧ (b 5 = true → x10 = .pointer (some ⟨g, 0, none⟩)) ∧ (b 6 = true → x11 = .pointer (some ⟨g, 0, none⟩)) ∧ (b 7 = true → x12 = .pointer (some ⟨g, 4, none⟩)) ∧ (b 8 = true → x13 = .int .i64 q.goal) ∧ (b 9 = true → x14 = .int .i64 d) ∧ (b 10 = true → x15 = .pointer (some ⟨g, 0, none⟩)) ∧ (b 11 = true → x16 = .pointer (some ⟨g, 0, none⟩)) ∧ (b 12 = true → x17 = .pointer (some ⟨g, 5, none⟩)) ∧ (b 13 = true → x18 = .int .i64 q.near) ∧ (b 14 = true → x19 = .int .i64 (d - q.near)) ∧ (b 15 = true → x20 = .int .i64 fv)) (by kernel_rfl) (by kernel_rfl) ?start ⟨?op0, ?op1, ?op2, ?op3, ?op4, ?op5, ?op6, ?op7, ?op8, ?op9, ?op10, ?op11, ?op12, ?op13, ?op14, ?op15, ?op16, trivial⟩ ?done
  case start => exact ⟨_, _, _, _, _, _, _, _, _, _, _, _, _, _, _, _, _, by simp only [Act.put, List.setIfInBounds_toArray, List.set_cons_zero, List.set_cons_succ]; rfl, below_drew1 (Below.refl _ _), fun h => absurd h (by decide), fun h => absurd h (by decide), fun h => absurd h (by decide), fun h => absurd h (by decide), fun h => absurd h (by decide), fun h => absurd h (by decide), fun h => absurd h (by decide), fun h => absurd h (by decide), fun h => absurd h (by decide), fun h => absurd h (by decide), fun h => absurd h (by decide), fun h => absurd h (by decide), fun h => absurd h (by decide), fun h => absurd h (by decide), fun h => absurd h (by decide), fun h => absurd h (by decide), fun h => absurd h (by decide)⟩
  case op0 =>
    rintro bb _ w' ⟨x5, x6, x7, x8, x9, x10, x11, x12, x13, x14, x15, x16, x17, x18, x19, x20, x4, rfl, B, F, p5, p6, p7, p8, p9, p10, p11, p12, p13, p14, p15, p16, p17, p18, p19, p20⟩ hb hd K hK
    simp only [Act.put, List.setIfInBounds_toArray, List.set_cons_zero, List.set_cons_succ]
    rw [if_pos (by rfl)]
    go_simp
    exact hK _ _ ⟨.pointer (some ⟨g, 0, none⟩), x6, x7, x8, x9, x10, x11, x12, x13, x14, x15, x16, x17, x18, x19, x20, x4, by simp only [Act.put, List.setIfInBounds_toArray, List.set_cons_zero, List.set_cons_succ], B, fun h => F (by simpa [upb] using h), fun _ => rfl, fun h => p6 (by simpa [upb] using h), fun h => p7 (by simpa [upb] using h), fun h => p8 (by simpa [upb] using h), fun h => p9 (by simpa [upb] using h), fun h => p10 (by simpa [upb] using h), fun h => p11 (by simpa [upb] using h), fun h => p12 (by simpa [upb] using h), fun h => p13 (by simpa [upb] using h), fun h => p14 (by simpa [upb] using h), fun h => p15 (by simpa [upb] using h), fun h => p16 (by simpa [upb] using h), fun h => p17 (by simpa [upb] using h), fun h => p18 (by simpa [upb] using h), fun h => p19 (by simpa [upb] using h), fun h => p20 (by simpa [upb] using h)⟩
  case op1 =>
    rintro bb _ w' ⟨x5, x6, x7, x8, x9, x10, x11, x12, x13, x14, x15, x16, x17, x18, x19, x20, x4, rfl, B, F, p5, p6, p7, p8, p9, p10, p11, p12, p13, p14, p15, p16, p17, p18, p19, p20⟩ hb hd K hK
    simp only [Act.put, List.setIfInBounds_toArray, List.set_cons_zero, List.set_cons_succ]
    obtain rfl := (p5 (hd 0 (by decide))).symm
    rw [if_pos (by rfl)]
    go_simp
    exact hK _ _ ⟨.pointer (some ⟨g, 0, none⟩), .pointer (some ⟨g, 0, none⟩), x7, x8, x9, x10, x11, x12, x13, x14, x15, x16, x17, x18, x19, x20, x4, by simp only [Act.put, List.setIfInBounds_toArray, List.set_cons_zero, List.set_cons_succ], B, fun h => F (by simpa [upb] using h), fun _ => rfl, fun _ => rfl, fun h => p7 (by simpa [upb] using h), fun h => p8 (by simpa [upb] using h), fun h => p9 (by simpa [upb] using h), fun h => p10 (by simpa [upb] using h), fun h => p11 (by simpa [upb] using h), fun h => p12 (by simpa [upb] using h), fun h => p13 (by simpa [upb] using h), fun h => p14 (by simpa [upb] using h), fun h => p15 (by simpa [upb] using h), fun h => p16 (by simpa [upb] using h), fun h => p17 (by simpa [upb] using h), fun h => p18 (by simpa [upb] using h), fun h => p19 (by simpa [upb] using h), fun h => p20 (by simpa [upb] using h)⟩
  case op2 =>
    rintro bb _ w' ⟨x5, x6, x7, x8, x9, x10, x11, x12, x13, x14, x15, x16, x17, x18, x19, x20, x4, rfl, B, F, p5, p6, p7, p8, p9, p10, p11, p12, p13, p14, p15, p16, p17, p18, p19, p20⟩ hb hd K hK
    simp only [Act.put, List.setIfInBounds_toArray, List.set_cons_zero, List.set_cons_succ]
    obtain rfl := (p6 (hd 1 (by decide))).symm
    rw [if_pos (by rfl)]
    go_simp
    exact hK _ _ ⟨x5, .pointer (some ⟨g, 0, none⟩), .pointer (some ⟨g, 0, none⟩), x8, x9, x10, x11, x12, x13, x14, x15, x16, x17, x18, x19, x20, x4, by simp only [Act.put, List.setIfInBounds_toArray, List.set_cons_zero, List.set_cons_succ], B, fun h => F (by simpa [upb] using h), fun h => p5 (by simpa [upb] using h), fun _ => rfl, fun _ => rfl, fun h => p8 (by simpa [upb] using h), fun h => p9 (by simpa [upb] using h), fun h => p10 (by simpa [upb] using h), fun h => p11 (by simpa [upb] using h), fun h => p12 (by simpa [upb] using h), fun h => p13 (by simpa [upb] using h), fun h => p14 (by simpa [upb] using h), fun h => p15 (by simpa [upb] using h), fun h => p16 (by simpa [upb] using h), fun h => p17 (by simpa [upb] using h), fun h => p18 (by simpa [upb] using h), fun h => p19 (by simpa [upb] using h), fun h => p20 (by simpa [upb] using h)⟩
  case op3 =>
    rintro bb _ w' ⟨x5, x6, x7, x8, x9, x10, x11, x12, x13, x14, x15, x16, x17, x18, x19, x20, x4, rfl, B, F, p5, p6, p7, p8, p9, p10, p11, p12, p13, p14, p15, p16, p17, p18, p19, p20⟩ hb hd K hK
    simp only [Act.put, List.setIfInBounds_toArray, List.set_cons_zero, List.set_cons_succ]
    obtain rfl := (p7 (hd 2 (by decide))).symm
    rw [if_pos (by rfl)]
    have hn := HP.out.next B
    have hc0 : w'.cell? ⟨g, 0, none⟩ = some (.int .i64 q.mw) := (blk_cell hn.blk 0).trans rfl
    have hc1 : w'.cell? ⟨g, 1, none⟩ = some (.int .i64 q.mh) := (blk_cell hn.blk 1).trans rfl
    have hc2 : w'.cell? ⟨g, 2, none⟩ = some (.string q.ms) := (blk_cell hn.blk 2).trans rfl
    go_simp
    exact hK _ _ ⟨x5, x6, .pointer (some ⟨g, 0, none⟩), .agg #[.int .i64 q.mw, .int .i64 q.mh, .string q.ms], x9, x10, x11, x12, x13, x14, x15, x16, x17, x18, x19, x20, x4, by simp only [Act.put, List.setIfInBounds_toArray, List.set_cons_zero, List.set_cons_succ], B, fun h => F (by simpa [upb] using h), fun h => p5 (by simpa [upb] using h), fun h => p6 (by simpa [upb] using h), fun _ => rfl, fun _ => rfl, fun h => p9 (by simpa [upb] using h), fun h => p10 (by simpa [upb] using h), fun h => p11 (by simpa [upb] using h), fun h => p12 (by simpa [upb] using h), fun h => p13 (by simpa [upb] using h), fun h => p14 (by simpa [upb] using h), fun h => p15 (by simpa [upb] using h), fun h => p16 (by simpa [upb] using h), fun h => p17 (by simpa [upb] using h), fun h => p18 (by simpa [upb] using h), fun h => p19 (by simpa [upb] using h), fun h => p20 (by simpa [upb] using h)⟩
  case op4 =>
    rintro bb _ w' ⟨x5, x6, x7, x8, x9, x10, x11, x12, x13, x14, x15, x16, x17, x18, x19, x20, x4, rfl, B, F, p5, p6, p7, p8, p9, p10, p11, p12, p13, p14, p15, p16, p17, p18, p19, p20⟩ hb hd K hK
    simp only [Act.put, List.setIfInBounds_toArray, List.set_cons_zero, List.set_cons_succ]
    rw [if_pos (by rfl)]
    go_simp
    exact hK _ _ ⟨x5, x6, x7, x8, .int .i64 t, x10, x11, x12, x13, x14, x15, x16, x17, x18, x19, x20, x4, by simp only [Act.put, List.setIfInBounds_toArray, List.set_cons_zero, List.set_cons_succ], B, fun h => F (by simpa [upb] using h), fun h => p5 (by simpa [upb] using h), fun h => p6 (by simpa [upb] using h), fun h => p7 (by simpa [upb] using h), fun h => p8 (by simpa [upb] using h), fun _ => rfl, fun h => p10 (by simpa [upb] using h), fun h => p11 (by simpa [upb] using h), fun h => p12 (by simpa [upb] using h), fun h => p13 (by simpa [upb] using h), fun h => p14 (by simpa [upb] using h), fun h => p15 (by simpa [upb] using h), fun h => p16 (by simpa [upb] using h), fun h => p17 (by simpa [upb] using h), fun h => p18 (by simpa [upb] using h), fun h => p19 (by simpa [upb] using h), fun h => p20 (by simpa [upb] using h)⟩
  case op5 =>
    rintro bb _ w' ⟨x5, x6, x7, x8, x9, x10, x11, x12, x13, x14, x15, x16, x17, x18, x19, x20, x4, rfl, B, F, p5, p6, p7, p8, p9, p10, p11, p12, p13, p14, p15, p16, p17, p18, p19, p20⟩ hb hd K hK
    simp only [Act.put, List.setIfInBounds_toArray, List.set_cons_zero, List.set_cons_succ]
    rw [if_pos (by rfl)]
    go_simp
    exact hK _ _ ⟨x5, x6, x7, x8, x9, .pointer (some ⟨g, 0, none⟩), x11, x12, x13, x14, x15, x16, x17, x18, x19, x20, x4, by simp only [Act.put, List.setIfInBounds_toArray, List.set_cons_zero, List.set_cons_succ], B, fun h => F (by simpa [upb] using h), fun h => p5 (by simpa [upb] using h), fun h => p6 (by simpa [upb] using h), fun h => p7 (by simpa [upb] using h), fun h => p8 (by simpa [upb] using h), fun h => p9 (by simpa [upb] using h), fun _ => rfl, fun h => p11 (by simpa [upb] using h), fun h => p12 (by simpa [upb] using h), fun h => p13 (by simpa [upb] using h), fun h => p14 (by simpa [upb] using h), fun h => p15 (by simpa [upb] using h), fun h => p16 (by simpa [upb] using h), fun h => p17 (by simpa [upb] using h), fun h => p18 (by simpa [upb] using h), fun h => p19 (by simpa [upb] using h), fun h => p20 (by simpa [upb] using h)⟩
  case op6 =>
    rintro bb _ w' ⟨x5, x6, x7, x8, x9, x10, x11, x12, x13, x14, x15, x16, x17, x18, x19, x20, x4, rfl, B, F, p5, p6, p7, p8, p9, p10, p11, p12, p13, p14, p15, p16, p17, p18, p19, p20⟩ hb hd K hK
    simp only [Act.put, List.setIfInBounds_toArray, List.set_cons_zero, List.set_cons_succ]
    obtain rfl := (p10 (hd 5 (by decide))).symm
    rw [if_pos (by rfl)]
    go_simp
    exact hK _ _ ⟨x5, x6, x7, x8, x9, .pointer (some ⟨g, 0, none⟩), .pointer (some ⟨g, 0, none⟩), x12, x13, x14, x15, x16, x17, x18, x19, x20, x4, by simp only [Act.put, List.setIfInBounds_toArray, List.set_cons_zero, List.set_cons_succ], B, fun h => F (by simpa [upb] using h), fun h => p5 (by simpa [upb] using h), fun h => p6 (by simpa [upb] using h), fun h => p7 (by simpa [upb] using h), fun h => p8 (by simpa [upb] using h), fun h => p9 (by simpa [upb] using h), fun _ => rfl, fun _ => rfl, fun h => p12 (by simpa [upb] using h), fun h => p13 (by simpa [upb] using h), fun h => p14 (by simpa [upb] using h), fun h => p15 (by simpa [upb] using h), fun h => p16 (by simpa [upb] using h), fun h => p17 (by simpa [upb] using h), fun h => p18 (by simpa [upb] using h), fun h => p19 (by simpa [upb] using h), fun h => p20 (by simpa [upb] using h)⟩
  case op7 =>
    rintro bb _ w' ⟨x5, x6, x7, x8, x9, x10, x11, x12, x13, x14, x15, x16, x17, x18, x19, x20, x4, rfl, B, F, p5, p6, p7, p8, p9, p10, p11, p12, p13, p14, p15, p16, p17, p18, p19, p20⟩ hb hd K hK
    simp only [Act.put, List.setIfInBounds_toArray, List.set_cons_zero, List.set_cons_succ]
    obtain rfl := (p11 (hd 6 (by decide))).symm
    rw [if_pos (by rfl)]
    go_simp
    exact hK _ _ ⟨x5, x6, x7, x8, x9, x10, .pointer (some ⟨g, 0, none⟩), .pointer (some ⟨g, 4, none⟩), x13, x14, x15, x16, x17, x18, x19, x20, x4, by simp only [Act.put, List.setIfInBounds_toArray, List.set_cons_zero, List.set_cons_succ], B, fun h => F (by simpa [upb] using h), fun h => p5 (by simpa [upb] using h), fun h => p6 (by simpa [upb] using h), fun h => p7 (by simpa [upb] using h), fun h => p8 (by simpa [upb] using h), fun h => p9 (by simpa [upb] using h), fun h => p10 (by simpa [upb] using h), fun _ => rfl, fun _ => rfl, fun h => p13 (by simpa [upb] using h), fun h => p14 (by simpa [upb] using h), fun h => p15 (by simpa [upb] using h), fun h => p16 (by simpa [upb] using h), fun h => p17 (by simpa [upb] using h), fun h => p18 (by simpa [upb] using h), fun h => p19 (by simpa [upb] using h), fun h => p20 (by simpa [upb] using h)⟩
  case op8 =>
    rintro bb _ w' ⟨x5, x6, x7, x8, x9, x10, x11, x12, x13, x14, x15, x16, x17, x18, x19, x20, x4, rfl, B, F, p5, p6, p7, p8, p9, p10, p11, p12, p13, p14, p15, p16, p17, p18, p19, p20⟩ hb hd K hK
    simp only [Act.put, List.setIfInBounds_toArray, List.set_cons_zero, List.set_cons_succ]
    obtain rfl := (p12 (hd 7 (by decide))).symm
    rw [if_pos (by rfl)]
    have hn := HP.out.next B
    have hc4 : w'.cell? ⟨g, 4, none⟩ = some (.int .i64 q.goal) := (blk_cell hn.blk 4).trans rfl
    go_simp
    exact hK _ _ ⟨x5, x6, x7, x8, x9, x10, x11, .pointer (some ⟨g, 4, none⟩), .int .i64 q.goal, x14, x15, x16, x17, x18, x19, x20, x4, by simp only [Act.put, List.setIfInBounds_toArray, List.set_cons_zero, List.set_cons_succ], B, fun h => F (by simpa [upb] using h), fun h => p5 (by simpa [upb] using h), fun h => p6 (by simpa [upb] using h), fun h => p7 (by simpa [upb] using h), fun h => p8 (by simpa [upb] using h), fun h => p9 (by simpa [upb] using h), fun h => p10 (by simpa [upb] using h), fun h => p11 (by simpa [upb] using h), fun _ => rfl, fun _ => rfl, fun h => p14 (by simpa [upb] using h), fun h => p15 (by simpa [upb] using h), fun h => p16 (by simpa [upb] using h), fun h => p17 (by simpa [upb] using h), fun h => p18 (by simpa [upb] using h), fun h => p19 (by simpa [upb] using h), fun h => p20 (by simpa [upb] using h)⟩
  case op9 =>
    rintro bb _ w' ⟨x5, x6, x7, x8, x9, x10, x11, x12, x13, x14, x15, x16, x17, x18, x19, x20, x4, rfl, B, F, p5, p6, p7, p8, p9, p10, p11, p12, p13, p14, p15, p16, p17, p18, p19, p20⟩ hb hd K hK
    simp only [Act.put, List.setIfInBounds_toArray, List.set_cons_zero, List.set_cons_succ]
    obtain rfl := (p8 (hd 3 (by decide))).symm
    obtain rfl := (p9 (hd 4 (by decide))).symm
    obtain rfl := (p13 (hd 8 (by decide))).symm
    rw [if_pos (by rfl)]
    go_simp
    refine (FC.out _).mono ?_
    rintro e w2 ⟨rfl, hb2⟩
    exact hK _ _ ⟨x5, x6, x7, .agg #[.int .i64 q.mw, .int .i64 q.mh, .string q.ms], .int .i64 t, x10, x11, x12, .int .i64 q.goal, .int .i64 d, x15, x16, x17, x18, x19, x20, x4, by simp only [Act.put, List.setIfInBounds_toArray, List.set_cons_zero, List.set_cons_succ], below_then B B.size hb2, fun h => F (by simpa [upb] using h), fun h => p5 (by simpa [upb] using h), fun h => p6 (by simpa [upb] using h), fun h => p7 (by simpa [upb] using h), fun _ => rfl, fun _ => rfl, fun h => p10 (by simpa [upb] using h), fun h => p11 (by simpa [upb] using h), fun h => p12 (by simpa [upb] using h), fun _ => rfl, fun _ => rfl, fun h => p15 (by simpa [upb] using h), fun h => p16 (by simpa [upb] using h), fun h => p17 (by simpa [upb] using h), fun h => p18 (by simpa [upb] using h), fun h => p19 (by simpa [upb] using h), fun h => p20 (by simpa [upb] using h)⟩
  case op10 =>
    rintro bb _ w' ⟨x5, x6, x7, x8, x9, x10, x11, x12, x13, x14, x15, x16, x17, x18, x19, x20, x4, rfl, B, F, p5, p6, p7, p8, p9, p10, p11, p12, p13, p14, p15, p16, p17, p18, p19, p20⟩ hb hd K hK
    simp only [Act.put, List.setIfInBounds_toArray, List.set_cons_zero, List.set_cons_succ]
    rw [if_pos (by rfl)]
    go_simp
    exact hK _ _ ⟨x5, x6, x7, x8, x9, x10, x11, x12, x13, x14, .pointer (some ⟨g, 0, none⟩), x16, x17, x18, x19, x20, x4, by simp only [Act.put, List.setIfInBounds_toArray, List.set_cons_zero, List.set_cons_succ], B, fun h => F (by simpa [upb] using h), fun h => p5 (by simpa [upb] using h), fun h => p6 (by simpa [upb] using h), fun h => p7 (by simpa [upb] using h), fun h => p8 (by simpa [upb] using h), fun h => p9 (by simpa [upb] using h), fun h => p10 (by simpa [upb] using h), fun h => p11 (by simpa [upb] using h), fun h => p12 (by simpa [upb] using h), fun h => p13 (by simpa [upb] using h), fun h => p14 (by simpa [upb] using h), fun _ => rfl, fun h => p16 (by simpa [upb] using h), fun h => p17 (by simpa [upb] using h), fun h => p18 (by simpa [upb] using h), fun h => p19 (by simpa [upb] using h), fun h => p20 (by simpa [upb] using h)⟩
  case op11 =>
    rintro bb _ w' ⟨x5, x6, x7, x8, x9, x10, x11, x12, x13, x14, x15, x16, x17, x18, x19, x20, x4, rfl, B, F, p5, p6, p7, p8, p9, p10, p11, p12, p13, p14, p15, p16, p17, p18, p19, p20⟩ hb hd K hK
    simp only [Act.put, List.setIfInBounds_toArray, List.set_cons_zero, List.set_cons_succ]
    obtain rfl := (p15 (hd 10 (by decide))).symm
    rw [if_pos (by rfl)]
    go_simp
    exact hK _ _ ⟨x5, x6, x7, x8, x9, x10, x11, x12, x13, x14, .pointer (some ⟨g, 0, none⟩), .pointer (some ⟨g, 0, none⟩), x17, x18, x19, x20, x4, by simp only [Act.put, List.setIfInBounds_toArray, List.set_cons_zero, List.set_cons_succ], B, fun h => F (by simpa [upb] using h), fun h => p5 (by simpa [upb] using h), fun h => p6 (by simpa [upb] using h), fun h => p7 (by simpa [upb] using h), fun h => p8 (by simpa [upb] using h), fun h => p9 (by simpa [upb] using h), fun h => p10 (by simpa [upb] using h), fun h => p11 (by simpa [upb] using h), fun h => p12 (by simpa [upb] using h), fun h => p13 (by simpa [upb] using h), fun h => p14 (by simpa [upb] using h), fun _ => rfl, fun _ => rfl, fun h => p17 (by simpa [upb] using h), fun h => p18 (by simpa [upb] using h), fun h => p19 (by simpa [upb] using h), fun h => p20 (by simpa [upb] using h)⟩
  case op12 =>
    rintro bb _ w' ⟨x5, x6, x7, x8, x9, x10, x11, x12, x13, x14, x15, x16, x17, x18, x19, x20, x4, rfl, B, F, p5, p6, p7, p8, p9, p10, p11, p12, p13, p14, p15, p16, p17, p18, p19, p20⟩ hb hd K hK
    simp only [Act.put, List.setIfInBounds_toArray, List.set_cons_zero, List.set_cons_succ]
    obtain rfl := (p16 (hd 11 (by decide))).symm
    rw [if_pos (by rfl)]
    go_simp
    exact hK _ _ ⟨x5, x6, x7, x8, x9, x10, x11, x12, x13, x14, x15, .pointer (some ⟨g, 0, none⟩), .pointer (some ⟨g, 5, none⟩), x18, x19, x20, x4, by simp only [Act.put, List.setIfInBounds_toArray, List.set_cons_zero, List.set_cons_succ], B, fun h => F (by simpa [upb] using h), fun h => p5 (by simpa [upb] using h), fun h => p6 (by simpa [upb] using h), fun h => p7 (by simpa [upb] using h), fun h => p8 (by simpa [upb] using h), fun h => p9 (by simpa [upb] using h), fun h => p10 (by simpa [upb] using h), fun h => p11 (by simpa [upb] using h), fun h => p12 (by simpa [upb] using h), fun h => p13 (by simpa [upb] using h), fun h => p14 (by simpa [upb] using h), fun h => p15 (by simpa [upb] using h), fun _ => rfl, fun _ => rfl, fun h => p18 (by simpa [upb] using h), fun h => p19 (by simpa [upb] using h), fun h => p20 (by simpa [upb] using h)⟩
  case op13 =>
    rintro bb _ w' ⟨x5, x6, x7, x8, x9, x10, x11, x12, x13, x14, x15, x16, x17, x18, x19, x20, x4, rfl, B, F, p5, p6, p7, p8, p9, p10, p11, p12, p13, p14, p15, p16, p17, p18, p19, p20⟩ hb hd K hK
    simp only [Act.put, List.setIfInBounds_toArray, List.set_cons_zero, List.set_cons_succ]
    obtain rfl := (p17 (hd 12 (by decide))).symm
    rw [if_pos (by rfl)]
    have hn := HP.out.next B
    have hc5 : w'.cell? ⟨g, 5, none⟩ = some (.int .i64 q.near) := (blk_cell hn.blk 5).trans rfl
    go_simp
    exact hK _ _ ⟨x5, x6, x7, x8, x9, x10, x11, x12, x13, x14, x15, x16, .pointer (some ⟨g, 5, none⟩), .int .i64 q.near, x19, x20, x4, by simp only [Act.put, List.setIfInBounds_toArray, List.set_cons_zero, List.set_cons_succ], B, fun h => F (by simpa [upb] using h), fun h => p5 (by simpa [upb] using h), fun h => p6 (by simpa [upb] using h), fun h => p7 (by simpa [upb] using h), fun h => p8 (by simpa [upb] using h), fun h => p9 (by simpa [upb] using h), fun h => p10 (by simpa [upb] using h), fun h => p11 (by simpa [upb] using h), fun h => p12 (by simpa [upb] using h), fun h => p13 (by simpa [upb] using h), fun h => p14 (by simpa [upb] using h), fun h => p15 (by simpa [upb] using h), fun h => p16 (by simpa [upb] using h), fun _ => rfl, fun _ => rfl, fun h => p19 (by simpa [upb] using h), fun h => p20 (by simpa [upb] using h)⟩
  case op14 =>
    rintro bb _ w' ⟨x5, x6, x7, x8, x9, x10, x11, x12, x13, x14, x15, x16, x17, x18, x19, x20, x4, rfl, B, F, p5, p6, p7, p8, p9, p10, p11, p12, p13, p14, p15, p16, p17, p18, p19, p20⟩ hb hd K hK
    simp only [Act.put, List.setIfInBounds_toArray, List.set_cons_zero, List.set_cons_succ]
    obtain rfl := (p14 (hd 9 (by decide))).symm
    obtain rfl := (p18 (hd 13 (by decide))).symm
    rw [if_pos (by rfl)]
    have hw : IntKind.i64.wrap (d - q.near) = d - q.near := IntWalk.i64_in _ (by omega)
    go_simp
    exact hK _ _ ⟨x5, x6, x7, x8, x9, x10, x11, x12, x13, .int .i64 d, x15, x16, x17, .int .i64 q.near, .int .i64 (d - q.near), x20, x4, by simp only [Act.put, List.setIfInBounds_toArray, List.set_cons_zero, List.set_cons_succ], B, fun h => F (by simpa [upb] using h), fun h => p5 (by simpa [upb] using h), fun h => p6 (by simpa [upb] using h), fun h => p7 (by simpa [upb] using h), fun h => p8 (by simpa [upb] using h), fun h => p9 (by simpa [upb] using h), fun h => p10 (by simpa [upb] using h), fun h => p11 (by simpa [upb] using h), fun h => p12 (by simpa [upb] using h), fun h => p13 (by simpa [upb] using h), fun _ => rfl, fun h => p15 (by simpa [upb] using h), fun h => p16 (by simpa [upb] using h), fun h => p17 (by simpa [upb] using h), fun _ => rfl, fun _ => rfl, fun h => p20 (by simpa [upb] using h)⟩
  case op15 =>
    rintro bb _ w' ⟨x5, x6, x7, x8, x9, x10, x11, x12, x13, x14, x15, x16, x17, x18, x19, x20, x4, rfl, B, F, p5, p6, p7, p8, p9, p10, p11, p12, p13, p14, p15, p16, p17, p18, p19, p20⟩ hb hd K hK
    simp only [Act.put, List.setIfInBounds_toArray, List.set_cons_zero, List.set_cons_succ]
    obtain rfl := (p19 (hd 14 (by decide))).symm
    rw [if_pos (by rfl)]
    go_simp
    exact hK _ _ ⟨x5, x6, x7, x8, x9, x10, x11, x12, x13, x14, x15, x16, x17, x18, .int .i64 (d - q.near), .int .i64 fv, x4, by simp only [Act.put, List.setIfInBounds_toArray, List.set_cons_zero, List.set_cons_succ], B, fun h => F (by simpa [upb] using h), fun h => p5 (by simpa [upb] using h), fun h => p6 (by simpa [upb] using h), fun h => p7 (by simpa [upb] using h), fun h => p8 (by simpa [upb] using h), fun h => p9 (by simpa [upb] using h), fun h => p10 (by simpa [upb] using h), fun h => p11 (by simpa [upb] using h), fun h => p12 (by simpa [upb] using h), fun h => p13 (by simpa [upb] using h), fun h => p14 (by simpa [upb] using h), fun h => p15 (by simpa [upb] using h), fun h => p16 (by simpa [upb] using h), fun h => p17 (by simpa [upb] using h), fun h => p18 (by simpa [upb] using h), fun _ => rfl, fun _ => rfl⟩
  case op16 =>
    rintro bb _ w' ⟨x5, x6, x7, x8, x9, x10, x11, x12, x13, x14, x15, x16, x17, x18, x19, x20, x4, rfl, B, F, p5, p6, p7, p8, p9, p10, p11, p12, p13, p14, p15, p16, p17, p18, p19, p20⟩ hb hd K hK
    simp only [Act.put, List.setIfInBounds_toArray, List.set_cons_zero, List.set_cons_succ]
    obtain rfl := (p20 (hd 15 (by decide))).symm
    rw [if_pos (by rfl)]
    go_simp
    exact hK _ _ ⟨x5, x6, x7, x8, x9, x10, x11, x12, x13, x14, x15, x16, x17, x18, x19, .int .i64 fv, .int .i64 fv, by simp only [Act.put, List.setIfInBounds_toArray, List.set_cons_zero, List.set_cons_succ], B, fun _ => rfl, fun h => p5 (by simpa [upb] using h), fun h => p6 (by simpa [upb] using h), fun h => p7 (by simpa [upb] using h), fun h => p8 (by simpa [upb] using h), fun h => p9 (by simpa [upb] using h), fun h => p10 (by simpa [upb] using h), fun h => p11 (by simpa [upb] using h), fun h => p12 (by simpa [upb] using h), fun h => p13 (by simpa [upb] using h), fun h => p14 (by simpa [upb] using h), fun h => p15 (by simpa [upb] using h), fun h => p16 (by simpa [upb] using h), fun h => p17 (by simpa [upb] using h), fun h => p18 (by simpa [upb] using h), fun h => p19 (by simpa [upb] using h), fun _ => rfl⟩
  case done =>
    rintro bb _ w' hb ⟨x5, x6, x7, x8, x9, x10, x11, x12, x13, x14, x15, x16, x17, x18, x19, x20, x4, rfl, B, F, p5, p6, p7, p8, p9, p10, p11, p12, p13, p14, p15, p16, p17, p18, p19, p20⟩
    obtain rfl := (p5 (hb 0 (by decide))).symm
    obtain rfl := (p6 (hb 1 (by decide))).symm
    obtain rfl := (p7 (hb 2 (by decide))).symm
    obtain rfl := (p8 (hb 3 (by decide))).symm
    obtain rfl := (p9 (hb 4 (by decide))).symm
    obtain rfl := (p10 (hb 5 (by decide))).symm
    obtain rfl := (p11 (hb 6 (by decide))).symm
    obtain rfl := (p12 (hb 7 (by decide))).symm
    obtain rfl := (p13 (hb 8 (by decide))).symm
    obtain rfl := (p14 (hb 9 (by decide))).symm
    obtain rfl := (p15 (hb 10 (by decide))).symm
    obtain rfl := (p16 (hb 11 (by decide))).symm
    obtain rfl := (p17 (hb 12 (by decide))).symm
    obtain rfl := (p18 (hb 13 (by decide))).symm
    obtain rfl := (p19 (hb 14 (by decide))).symm
    obtain rfl := (p20 (hb 15 (by decide))).symm
    simp only [Act.put, List.setIfInBounds_toArray, List.set_cons_zero, List.set_cons_succ]
    obtain rfl := (F (hb 16 (by decide))).symm
    have HBF := Lib.hid B
    clear B F hb HP FC
    go_wp2_with fail
    go_ret
    exact ⟨rfl, HBF.out⟩
end Go.Proofs.Ytkbimhngbdbgdaa.PPathFinds
