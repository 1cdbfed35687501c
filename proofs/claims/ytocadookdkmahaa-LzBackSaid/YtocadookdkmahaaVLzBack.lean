import Derived.Test.YtocadookdkmahaaZB
import Derived.Test.YtocadookdkmahaaRowB
import Derived.Laws.MakeOwn
namespace Go.Proofs.Ytocadookdkmahaa.VLz
open Go.RowKit Go.Proofs.Ytocadookdkmahaa.PLz Go.Proofs.YtocadookdkmahaaW.PrintWords Go.Proofs.YtocadookdkmahaaW.PrintLast Go.Proofs.YtocadookdkmahaaW.PrintMore
attribute [local go_sem] max2_int min2_int max_two min_two max_three min_three max_four min_four   -- for this text's walks alone
set_option linter.unusedVariables false
set_option linter.unusedSimpArgs false
set_option maxHeartbeats 4000000
set_option maxRecDepth 20000
theorem back_big (A : Option Addr) (len cap : Nat) (t : Int) (ht : 0 ≤ t ∧ t < 256) (w : World) (h : 5000 < len ∨ 20000 < (len : Int) * (t % 8)) :
    Calls Try.prog 7 #[.slice A len cap, .int .u8 t] w fun e w' => e = .returned (.bool true) ∧ Below w.heap.size w w' := by
  have hw := Lib.hid (fun W => rematchlaw04_wakes.calls0 W)
  have e0 : t.tmod 8 = t % 8 := Int.tmod_eq_emod_of_nonneg ht.1
  have e1 : IntKind.u8.wrap (t % 8) = t % 8 := by rw [IntKind.wrap_u8]; omega
  have e2 : IntKind.i64.wrap (t % 8) = t % 8 := IntWalk.i64_in _ (by omega)
  by_cases hb : 5000 < len
  · have hl' : (5000 : Int) < len := by omega
    go_enter Try.func7, Try.ntmps7
    go_wp2_with fail
    refine (hw.out _).mono ?_; rintro e w1 ⟨rfl, b⟩
    go_wp2_with fail
    go_ret
    exact ⟨rfl, b⟩
  · have hl' : ¬ (5000 : Int) < len := by omega
    have h2 := h.resolve_left hb
    have e3 : IntKind.i64.wrap ((len : Int) * (t % 8)) = (len : Int) * (t % 8) := IntWalk.i64_in _ (by
      have h1 : (len : Int) ≤ 5000 := by omega
      have := Int.mul_le_mul_of_nonneg_right h1 (show 0 ≤ t % 8 by omega)
      omega)
    go_enter Try.func7, Try.ntmps7
    go_wp2_with fail
    refine (hw.out _).mono ?_; rintro e w1 ⟨rfl, b⟩
    go_wp2_with fail
    go_ret
    exact ⟨rfl, b⟩
/-- the row and as many more of the like -/
def reps (z : List Int) (k : Nat) : List Int := (List.replicate (k + 1) z).flatten
theorem reps_zero (z : List Int) : reps z 0 = z := by simp [reps]
theorem reps_next (z : List Int) (k : Nat) : reps z k ++ z = reps z (k + 1) := by
  unfold reps
  rw [List.replicate_succ' (n := k + 1), List.flatten_append]
  simp
theorem reps_len (z : List Int) (k : Nat) : (reps z k).length = (k + 1) * z.length := by
  simp [reps, List.length_flatten]
theorem reps_isB {z : List Int} (h : IsB z) (k : Nat) : IsB (reps z k) := by
  intro x hx
  unfold reps at hx
  obtain ⟨l, hl, hx⟩ := List.mem_flatten.1 hx
  rw [List.eq_of_mem_replicate hl] at hx
  exact h x hx
theorem back_room (w : World) (n : Nat) (hn : n ≤ 100000) : ∃ w1, (Instr.makeSlice 22 (.int .i64 (n : Int)) (.int .i64 (n : Int))).run Try.prog w = .ok (.slice (some ⟨w.heap.size, 0, none⟩) n n) w1 ∧ Kd.C (Kd.int .u8) w1 (some ⟨w.heap.size, 0, none⟩) (List.replicate n (0 : Int)).length (List.replicate n (0 : Int)) ∧ Below w.heap.size w w1 := by
  obtain ⟨i0, hi, hzz⟩ := Option.map_eq_some_iff.1 info5
  simp only [Prod.mk.injEq] at hzz
  obtain ⟨hz0, hz1, hz2⟩ := hzz
  have hr := run_make (P := Try.prog) w 22 5 i0 _ Try.underlying22 hi hz0 .i64 .i64 (n : Int) (n : Int) (by omega) (by omega) (by rw [hz2]; omega) (by omega)
  rw [hz1] at hr
  have hcells : madeCells (Value.int .u8 0).cells ((n : Int).toNat * 1) = ((List.replicate n (0 : Int)).map (Value.int .u8)).toArray := by
    unfold madeCells
    apply Array.ext
    · simp
    · intro i h1 h2
      simp [Value.cells, Nat.mod_one]
  rw [hcells] at hr
  have hh := heap_alloc_new w (.cells ((List.replicate n (0 : Int)).map (Value.int .u8)).toArray 5)
  refine ⟨_, by simpa using hr, wire_lit (e := 5) (fr := (0, 0)) hh (by simp; omega), below_alloc (Below.refl _ _) _⟩
theorem back_walk (A : Option Addr) (cap : Nat) (z : List Int) (t : Int) (ht : 0 ≤ t ∧ t < 256) (w : World) (hz : IsB z) (hzl : z.length ≤ 5000) (hT : (z.length : Int) * (t % 8) ≤ 20000) (hC : Kd.C (Kd.int .u8) w A z.length z) (hcap : z.length ≤ cap) :
    Calls Try.prog 7 #[.slice A z.length cap, .int .u8 t] w fun e w' => e = .returned (.bool true) ∧ Below w.heap.size w w' := by
  have hwk := Lib.hid (fun W => rematchlaw04_wakes.calls0 W)
  have e0 : t.tmod 8 = t % 8 := Int.tmod_eq_emod_of_nonneg ht.1
  have e1 : IntKind.u8.wrap (t % 8) = t % 8 := by rw [IntKind.wrap_u8]; omega
  have e2 : IntKind.i64.wrap (t % 8) = t % 8 := IntWalk.i64_in _ (by omega)
  have e3 : IntKind.i64.wrap ((z.length : Int) * (t % 8)) = (z.length : Int) * (t % 8) := IntWalk.i64_in _ (by
    have h1 : (z.length : Int) ≤ 5000 := by omega
    have := Int.mul_le_mul_of_nonneg_right h1 (show 0 ≤ t % 8 by omega)
    have : 0 ≤ (z.length : Int) * (t % 8) := Int.mul_nonneg (by omega) (by omega)
    omega)
  have hl' : ¬ (5000 : Int) < z.length := by omega
  have hT' : ¬ (20000 : Int) < (z.length : Int) * (t % 8) := by omega
  obtain ⟨T, hTT⟩ : ∃ T : Nat, t % 8 = (T : Int) := ⟨(t % 8).toNat, by omega⟩
  rw [hTT] at e0 e1 e2 e3 hT' hT
  have hT7 : T < 8 := by omega
  have hTN : z.length * T ≤ 20000 := Int.ofNat_le.1 (show ((z.length * T : Nat) : Int) ≤ ((20000 : Nat) : Int) by rw [Int.natCast_mul]; exact hT)
  have HC := Lib.hid hC
  have HZ := Lib.hid hz
  have HT := Lib.hid hTT
  clear hC hz hT hTT
  go_enter Try.func7, Try.ntmps7
  go_wp2_with (first
    | (at_builtin; refine Kd.R_append_row (Value.int .u8) (0 : Int) (w0 := w) w.heap.size rfl (.const (.slice none 0 0)) (.tmp 26) 22 5 (.int .u8 0) 1 rfl Try.underlying22 info5 rfl (by decide) _ [] z A z.length cap (fun _ => True) rfl rfl (fun _ _ => trivial) (Kd.R_nil _ _ _ _ _) HC.out (Below.refl _ _) (Nat.le_refl _) (by simp; omega) ?_; intro v2 w2 R2 b2 _ _))
  rw [List.nil_append] at R2
  have R2 := Lib.hid R2
  have b2 := Lib.hid b2
  go_loopw [5, 6] (fun v5 v6 wr => ∃ j : Nat, v6 = .int .i64 j ∧ j ≤ T ∧ Hid (Kd.R (Kd.int .u8) 5 wr w.heap.size (fun _ => True) v5 (reps z j)) ∧ Hid (Below w.heap.size w wr)) (fun _ v6 _ => T - (intOf v6).toNat)
  case atStart => exact ⟨0, rfl, by omega, by rw [reps_zero]; exact R2, b2⟩
  case round =>
    obtain ⟨j, rfl, hj, HR, HB⟩ := hrel
    have hlen : (reps z j).length + z.length ≤ 100000 := by
      rw [reps_len]
      have := Nat.mul_le_mul (show j + 1 ≤ 8 by omega) hzl
      omega
    by_cases hlt : j < T
    · have hlt' : (j : Int) < T := by omega
      have HC2 := Lib.hid (Kd.C_below HC.out HB.out)
      have hj1 : IntKind.i64.wrap ((j : Int) + 1) = ((j + 1 : Nat) : Int) := by rw [IntWalk.i64_in _ (by omega)]; rfl
      go_wp2_with (first
        | (at_builtin; refine Kd.R_append_row (Value.int .u8) (0 : Int) (w0 := w) w.heap.size rfl (.tmp 35) (.tmp 36) 22 5 (.int .u8 0) 1 rfl Try.underlying22 info5 rfl (by decide) _ (reps z j) z A z.length cap (fun _ => True) rfl rfl (fun _ _ => trivial) HR.out HC2.out HB.out HB.out.size (by omega) ?_; intro v3 w3 R3 b3 _ _))
      go_roundw
      case rel => exact ⟨j + 1, by go_num, by omega, Lib.hid (by rw [← reps_next]; exact R3), Lib.hid b3⟩
      case measure => simp [intOf]; omega
    · obtain rfl : j = T := by omega
      have hlt' : ¬ (j : Int) < j := by omega
      obtain ⟨all, hall⟩ : ∃ all, reps z j = all := ⟨_, rfl⟩
      rw [hall] at HR hlen
      have HA := Lib.hid hall
      clear hall
      obtain ⟨A3, c3, hv3, q3, C3⟩ := wire_form HR.out
      subst hv3
      have C3 := Lib.hid C3
      clear HR R2 b2
      have hB := Lib.hid (show IsB all by rw [← HA.out]; exact reps_isB HZ.out _)
      obtain ⟨X, hX⟩ : ∃ X, lz_pack all = X := ⟨_, rfl⟩
      have hXl := lb_len all
      rw [hX] at hXl
      have hXB : wire_bytes X = true := by
        rw [← hX]; unfold wire_bytes; simp; exact fun x hx => lb_isB hB.out x hx
      have g1 : Hid (PLz.lz_Pack.f all = some X) := Lib.hid (by
        unfold PLz.lz_Pack.f
        rw [if_pos ⟨by omega, by unfold wire_bytes; simp; exact fun x hx => hB.out x hx⟩, hX])
      have g2 : Hid (PLz.lz_Unpack.f X (all.length : Int) = some (all, 0)) := Lib.hid (by
        unfold PLz.lz_Unpack.f
        rw [if_pos ⟨hXB, by omega, by omega⟩, ← hX, lb_back all _ (by omega), lb_res, if_pos (by omega)])
      have g3 : Hid (0 < all.length → PLz.lz_Unpack.f X ((all.length : Int) - 1) = some ([], 6)) := Lib.hid (fun hp => by
        unfold PLz.lz_Unpack.f
        rw [if_pos ⟨hXB, by omega, by omega⟩, ← hX, lb_back all _ (by omega), lb_res, if_neg (by omega)])
      obtain ⟨Z, hZ⟩ : ∃ Z, lz_pack (List.replicate all.length 0) = Z := ⟨_, rfl⟩
      have hZl := lb_zeros all.length
      rw [hZ] at hZl
      have g4 : Hid (PLz.lz_Pack.f (List.replicate all.length 0) = some Z) := Lib.hid (by
        unfold PLz.lz_Pack.f
        rw [if_pos ⟨by rw [List.length_replicate]; omega, by unfold wire_bytes; simp⟩, hZ])
      have h0 : Hid (all.length = 0 → X.length = 0) := Lib.hid (fun h => by
        obtain rfl := List.length_eq_zero_iff.1 h
        rw [← hX]; rfl)
      obtain ⟨own, hown⟩ : ∃ o, o = strOfNums all := ⟨_, rfl⟩
      have Hown := Lib.hid hown
      obtain ⟨D, hD⟩ : ∃ D : Int, D = (all.length : Int) / 64 := ⟨_, rfl⟩
      have d1 : (all.length : Int).tdiv 64 = D := by rw [hD]; exact Int.tdiv_eq_ediv_of_nonneg (by omega)
      have d2 : IntKind.i64.wrap D = D := IntWalk.i64_in _ (by omega)
      have d3 : IntKind.i64.wrap ((all.length : Int) + D) = (all.length : Int) + D := IntWalk.i64_in _ (by omega)
      have d4 : IntKind.i64.wrap ((all.length : Int) + D + 1) = (all.length : Int) + D + 1 := IntWalk.i64_in _ (by omega)
      have d5 : ¬ ((all.length : Int) + D + 1 < X.length) := by omega
      obtain ⟨E, hE⟩ : ∃ E : Int, E = (all.length : Int) / 66 := ⟨_, rfl⟩
      have x1 : (all.length : Int).tdiv 66 = E := by rw [hE]; exact Int.tdiv_eq_ediv_of_nonneg (by omega)
      have x2 : IntKind.i64.wrap E = E := IntWalk.i64_in _ (by omega)
      have x3 : IntKind.i64.wrap (E + 1) = E + 1 := IntWalk.i64_in _ (by omega)
      have x4 : IntKind.i64.wrap (2 * (E + 1)) = 2 * (E + 1) := IntWalk.i64_in _ (by omega)
      have x5 : IntKind.i64.wrap (2 + 2 * (E + 1)) = 2 + 2 * (E + 1) := IntWalk.i64_in _ (by omega)
      have x6 : IntKind.i64.wrap (2 + 2 * (E + 1) + 2) = 2 + 2 * (E + 1) + 2 := IntWalk.i64_in _ (by omega)
      have x7 : (Z.length : Int) ≤ 2 + 2 * (E + 1) + 2 := by omega
      have x8 : IntKind.i64.wrap ((all.length : Int) - 1) = (all.length : Int) - 1 := IntWalk.i64_in _ (by omega)
      have hal : all.length ≤ 100000 := by omega
      clear hX hXl hXB hZ hZl hown hD hE hlen hlt hj HC HZ HT e3 hT7 hTN hT' hl' hzl HA
      go_wp2_with fail
      clear e0 e1 e2 hlt'
      refine (PLz.lz_Pack.calls A3 c3 all X _ C3.out q3 g1.out).mono ?_; rintro e w4 ⟨v4, rfl, R4, b4⟩
      obtain ⟨A4, c4, rfl, q4, C4⟩ := wire_form R4
      have HB4 := Lib.hid (below_then HB.out HB.out.size b4)
      have C3 := Lib.hid (Kd.C_below C3.out b4)
      have C4 := Lib.hid C4
      clear R4 b4 HB
      go_wp2_with fail
      refine (PLz.lz_Unpack.calls A4 c4 X _ _ _ _ C4.out q4 g2.out).mono ?_; rintro e w5 ⟨v5, rfl, R5, b5⟩
      obtain ⟨A5, c5, rfl, q5, C5⟩ := wire_form R5
      have HB5 := Lib.hid (below_then HB4.out HB4.out.size b5)
      have C3 := Lib.hid (Kd.C_below C3.out b5)
      have C4 := Lib.hid (Kd.C_below C4.out b5)
      clear R5 b5 HB4
      have k3 := Kd.C_string (P := Try.prog) (src := 22) (dst := 9) (c := c3) Try.underlying22 (by kernel_rfl) Try.underlying9 C3.out
      have k5 := Kd.C_string (P := Try.prog) (src := 22) (dst := 9) (c := c5) Try.underlying22 (by kernel_rfl) Try.underlying9 C5
      rw [← Hown.out] at k3 k5
      by_cases hp : 0 < all.length
      · have hp' : (0 : Int) < all.length := by omega
        go_wp2_with fail
        refine (PLz.lz_Unpack.calls A4 c4 X _ _ _ _ C4.out q4 (g3.out hp)).mono ?_; rintro e w6 ⟨v6, rfl, R6, b6⟩
        obtain ⟨A6, c6, rfl, q6, C6⟩ := wire_form R6
        have HB6 := Lib.hid (below_then HB5.out HB5.out.size b6)
        clear k3 k5 R6 b6 C6 C5 C3 C4 HB5
        obtain ⟨w7, mk7, C7, b7⟩ := back_room w6 all.length hal
        have HB7 := Lib.hid (below_then HB6.out HB6.out.size b7)
        have hpk := PLz.lz_Pack.calls (some ⟨w6.heap.size, 0, none⟩) all.length (List.replicate all.length 0) Z _ C7 (by simp) g4.out
        rw [List.length_replicate] at hpk
        have HPK := Lib.hid hpk
        clear C7 hpk HB6 b7
        go_wp2_with fail
        refine HPK.out.mono ?_; rintro e w8 ⟨v8, rfl, R8, b8⟩
        obtain ⟨A8, c8, rfl, q8, C8⟩ := wire_form R8
        have HB8 := Lib.hid (below_then HB7.out HB7.out.size b8)
        clear mk7 HPK R8 b8 C8 HB7
        go_wp2_with fail
        refine (hwk.out _).mono ?_; rintro e w9 ⟨rfl, b9⟩
        have HB9 := Lib.hid (below_then HB8.out HB8.out.size b9)
        clear b9 HB8
        go_wp2_with fail
        go_ret
        exact ⟨rfl, HB9.out⟩
      · have hp' : ¬ (0 : Int) < all.length := by omega
        have hx0 := h0.out (by omega)
        go_wp2_with fail
        refine (hwk.out _).mono ?_; rintro e w9 ⟨rfl, b9⟩
        have HB9 := Lib.hid (below_then HB5.out HB5.out.size b9)
        clear b9 HB5
        go_wp2_with fail
        go_ret
        exact ⟨rfl, HB9.out⟩
theorem back_law (A : Option Addr) (len cap : Nat) (zs : List Int) (t : Int) (W : World) (h0 : IsRow .u8 W A len cap zs) (h1 : (Lit.int .u8 t).wf = true) :
    Calls Try.prog 7 #[.slice A len cap, .int .u8 t] W fun e w' => e = .returned (.bool true) ∧ Below W.heap.size W w' := by
  have ht := row_u8 h1
  by_cases hb : 5000 < len ∨ 20000 < (len : Int) * (t % 8)
  · exact back_big A len cap t ht W hb
  · obtain ⟨hC, hl, hlc, hr⟩ := row_bytes h0
    have := back_walk A cap (zs.take len) t ht W hr (by omega) (by rw [hl]; omega) (by rw [hl]; exact hC) (by omega)
    rwa [hl] at this
end Go.Proofs.Ytocadookdkmahaa.VLz
