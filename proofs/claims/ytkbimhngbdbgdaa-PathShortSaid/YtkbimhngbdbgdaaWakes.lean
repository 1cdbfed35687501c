/- Path: wakes: a way that is known. No condition. -/
import Derived.Test.YtkbimhngbdbgdaaFindN
namespace Go.Proofs.Ytkbimhngbdbgdaa.PPathFinds
open Go.RowKit Go.Proofs.YtkbimhngbdbgdaaW.PrintWords Go.Proofs.YtkbimhngbdbgdaaW.PrintLast Go.Proofs.YtkbimhngbdbgdaaW.PrintMore
attribute [local go_sem] max2_int min2_int max_two min_two max_three min_three max_four min_four   -- for this text's walks alone
set_option linter.unusedVariables false
set_option linter.unusedSimpArgs false
set_option maxHeartbeats 8000000
set_option maxRecDepth 20000
theorem info5 : (Try.prog.info? 5).map (fun i => (i.zero, i.size, i.bytes)) = some (some (.int .u8 0), 1, 1) := by kernel_rfl
def wkZ : ByteArray := strOfNums (List.replicate 16 0)
theorem wk_size : (wkZ.size : Int) = 16 := by kernel_rfl
theorem wk_new : grid_New.f 4 4 wkZ = some (4, 4, wkZ, 0) := by
  unfold grid_New.f
  rw [if_pos ⟨by omega, by omega, by omega, by omega, by kernel_rfl, by kernel_rfl⟩]
theorem wk_far1 : grid_Map_Far.f 5 4 4 wkZ 0 2 = some 2 := by kernel_rfl
theorem wk_far2 : grid_Map_Far.f 5 4 4 wkZ 5 6 = some 1 := by kernel_rfl
theorem wk_fd1 (bz : Value) (gm : Nat) : fd ⟨4, 4, wkZ, bz, 2, 0, gm⟩ (fun t => decide (t = 1)) 600 (cm_l (fun _ => none) [] 0 0 (if (0 : Int) < 2 then 2 - 0 else 0)) (cm_F (fun _ => none) 0 0 0) = some ([4, 5, 6, 2], true) := by kernel_rfl
theorem wk_fd2 (bz : Value) (gm : Nat) : fd ⟨4, 4, wkZ, bz, 6, 1, gm⟩ (fun t => false) 600 (cm_l (fun _ => none) [] 5 0 (if (1 : Int) < 1 then 1 - 1 else 0)) (cm_F (fun _ => none) 5 5 0) = some ([], true) := by kernel_rfl
theorem wk_find1 (W : World) : Calls Try.prog 8 #[.agg #[.int .i64 4, .int .i64 4, .string wkZ], .func (.func 16) #[] #[], .int .i64 0, .int .i64 2, .int .i64 0] W fun e W' => ∃ vo, e = .returned (.tuple #[vo, .bool true]) ∧ Kd.R (Kd.int .i64) 3 W' W.heap.size (fun _ => True) vo [4, 5, 6, 2] ∧ Below W.heap.size W W' :=
  find_yes W 4 4 wkZ _ (fun t => decide (t = 1)) 0 2 0 2 ([4, 5, 6, 2], true) (.inr (.inl ⟨rfl, fun _ => rfl⟩)) ⟨by omega, by rw [wk_size]; omega⟩ ⟨by omega, by rw [wk_size]; omega⟩ ⟨by omega, by omega⟩ wk_far1 ⟨by omega, by omega⟩ (fun gm => wk_fd1 _ gm)
theorem wk_find2 (W : World) : Calls Try.prog 8 #[.agg #[.int .i64 4, .int .i64 4, .string wkZ], .nilFunc, .int .i64 5, .int .i64 6, .int .i64 1] W fun e W' => ∃ vo, e = .returned (.tuple #[vo, .bool true]) ∧ Kd.R (Kd.int .i64) 3 W' W.heap.size (fun _ => True) vo [] ∧ Below W.heap.size W W' :=
  find_yes W 4 4 wkZ _ (fun t => false) 5 6 1 1 ([], true) (.inl ⟨rfl, fun _ => rfl⟩) ⟨by omega, by rw [wk_size]; omega⟩ ⟨by omega, by rw [wk_size]; omega⟩ ⟨by omega, by omega⟩ wk_far2 ⟨by omega, by omega⟩ (fun gm => wk_fd2 _ gm)
theorem wakes_calls (w : World) : Calls Try.prog 5 #[] w fun e W' => e = .returned (.bool true) ∧ Below w.heap.size w W' := by
  have NC := Lib.hid (fun W => grid_New.calls 4 4 wkZ 4 4 wkZ 0 W wk_new)
  have F1 := Lib.hid (fun W => wk_find1 W)
  have F2 := Lib.hid (fun W => wk_find2 W)
  go_enter Try.func5, Try.ntmps5
  go_wp2_with (first
    | ((with_reducible refine gate_dst (N := 8) rfl ?_); refine Kd.R_make (Kd.int .u8) (w0 := w) w.heap.size 5 rfl (N := 8) rfl 42 _ _ rfl 16 rfl rfl Try.underlying42 (.int .u8 0) 1 info5 rfl (by decide) (by omega) 0 (ok := fun _ => True) (okp := fun _ => True) rfl (fun _ hk => hk) trivial (by omega) (by decide) (Below.refl _ _) (Nat.le_refl _) ?_; intro v8 w1 ho hb hg hn; obtain ⟨A, c, hv, hlc, hC⟩ := Kd.R_reads ho; subst hv; have hcv : (convert 42 9 (.slice A 16 c)).run Try.prog w1 = .ok (.string wkZ) w1 := Kd.C_string Try.underlying42 Try.underlying5 Try.underlying9 hC; have HB1 := Lib.hid hb; clear ho hb hg hn hlc hC)
    | (refine (NC.out _).mono ?_; rintro e w2 ⟨rfl, hb⟩; have HB2 := Lib.hid (below_then HB1.out HB1.out.size hb); have hba := below_alloc (Below.refl w2.heap.size w2) (.cells #[.int .i64 4, .int .i64 4, .string wkZ] 25); have HB3 := Lib.hid (below_then HB2.out HB2.out.size hba); have H25 := Lib.hid (blk_new w2 (.cells #[.int .i64 4, .int .i64 4, .string wkZ] 25)); clear NC hb hcv HB1 hba)
    | (refine (F1.out _).mono ?_; rintro e w3 ⟨v3, rfl, hR, hb⟩; have HB4 := Lib.hid (below_then HB3.out HB3.out.size hb); have h25 := (hb.block w2.heap.size (blk_lt H25.out)).trans H25.out; obtain ⟨c0, c1, c2⟩ := cells3 h25; have HR3 := Lib.hid hR; obtain ⟨A3, n3, hv3⟩ := Kd.R_slice hR; subst hv3; clear F1 hb hR HB3 h25)
    | (refine (F2.out _).mono ?_; rintro e w4 ⟨v4, rfl, hR, hb⟩; have HB5 := Lib.hid (below_then HB4.out HB4.out.size hb); obtain ⟨A4, n4, hv4⟩ := Kd.R_slice hR; subst hv4; have hC3 := (Kd.R_reads' (Kd.R_below HR3.out hb)).2.2; obtain ⟨a0, e0, x0⟩ := Kd.at_int hC3 0 (by decide) (by decide); obtain ⟨a1, e1, x1⟩ := Kd.at_int hC3 1 (by decide) (by decide); obtain ⟨a2, e2, x2⟩ := Kd.at_int hC3 2 (by decide) (by decide); obtain ⟨a3, e3, x3⟩ := Kd.at_int hC3 3 (by decide) (by decide); subst e0; obtain rfl := Option.some.inj e1; obtain rfl := Option.some.inj e2; obtain rfl := Option.some.inj e3; have z0 : w4.cell? (a0.add 0) = some (.int .i64 4) := x0; have y0 : w4.cell? a0 = some (.int .i64 4) := (by rw [Addr.add_zero'] at z0; exact z0); clear z0; have z1 : w4.cell? (a0.add (0 + 1)) = some (.int .i64 5) := x1; have y1 : w4.cell? ⟨a0.block, a0.off + 1, none⟩ = some (.int .i64 5) := (by rw [add_field a0 0 1 (by omega), Addr.add_zero'] at z1; exact z1); clear z1; have z2 : w4.cell? (a0.add (0 + 2)) = some (.int .i64 6) := x2; have y2 : w4.cell? ⟨a0.block, a0.off + 2, none⟩ = some (.int .i64 6) := (by rw [add_field a0 0 2 (by omega), Addr.add_zero'] at z2; exact z2); clear z2; have z3 : w4.cell? (a0.add (0 + 3)) = some (.int .i64 2) := x3; have y3 : w4.cell? ⟨a0.block, a0.off + 3, none⟩ = some (.int .i64 2) := (by rw [add_field a0 0 3 (by omega), Addr.add_zero'] at z3; exact z3); clear z3; clear F2 hb hR HB4 HR3 hC3 x0 x1 x2 x3 c0 c1 c2)
    | fail)
  go_ret
  exact ⟨rfl, HB5.out⟩
end Go.Proofs.Ytkbimhngbdbgdaa.PPathFinds
