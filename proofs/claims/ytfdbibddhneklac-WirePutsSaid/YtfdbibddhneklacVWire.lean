import Derived.Test.YtfdbibddhneklacPWireBackx2
import Derived.Lib.SlBytesConst
namespace Go.Proofs.Ytfdbibddhneklac.PWireBack
open Go.RowKit Go.Proofs.YtfdbibddhneklacW.PrintWords Go.Proofs.YtfdbibddhneklacW.PrintLast Go.Proofs.YtfdbibddhneklacW.PrintMore
set_option linter.unusedVariables false
theorem wire_form {W : World} {b e : Nat} {ok : Nat → Prop} {v : Value} {xs : List Int} (h : Kd.R (Kd.int .u8) e W b ok v xs) : ∃ A c, v = .slice A xs.length c ∧ xs.length ≤ c ∧ Kd.C (Kd.int .u8) W A xs.length xs := by
  rcases (Kd.own_of_R h).2 with ⟨rfl, hn⟩ | ⟨g', cap, cur, rfl, _, _, hc, _⟩
  · obtain rfl := List.length_eq_zero_iff.1 hn
    exact ⟨none, 0, rfl, Nat.le_refl _, Kd.C_nil _ _⟩
  · exact ⟨_, cap, rfl, hc, (Kd.R_reads' h).2.2⟩
theorem wire_lit {W : World} {g : Nat} {e : Nat} {fr : Nat × Nat} {l : List Int} (h : W.heap[g]? = some (.cells (l.map (Value.int .u8)).toArray e fr)) (hl : l.length ≤ 140737488355328) : Kd.C (Kd.int .u8) W (some ⟨g, 0, none⟩) l.length l := by
  refine ⟨rfl, by omega, fun _ => ⟨_, rfl, fun j p hj => ⟨[.int .u8 p], rfl, rfl, fun i u hi => ?_⟩⟩⟩
  have hi0 : i = 0 := by have := (List.getElem?_eq_some_iff.1 hi).1; simp at this; omega
  subst hi0
  rw [show j * (Kd.int .u8).sz + 0 = j by show j * 1 + 0 = j; omega, add_plain, cell_of_row W g j _ e fr h]
  simp at hi
  subst hi
  simp [hj]
theorem wire_Err_ro (g : Nat) (f0 : List Int) (f1 f2 : Int) (w0 w : World) (hI : IsS74 w0 w g f0 f1 f2) : Calls Try.prog 39 #[.pointer (some ⟨g, 0, none⟩)] w fun e w' => e = .returned (.int .i64 f2) ∧ w' = w := by
  obtain ⟨A0, c0, hb, hg, hr0, hq0⟩ := hI
  have hc2 := cellS74_2 hb
  clear hb hr0
  go_enter Try.func39, Try.ntmps39
  go_wp2
  go_ret
  exact ⟨rfl, rfl⟩
theorem wire_At_ro (g : Nat) (f0 : List Int) (f1 f2 : Int) (w0 w : World) (hI : IsS74 w0 w g f0 f1 f2) : Calls Try.prog 41 #[.pointer (some ⟨g, 0, none⟩)] w fun e w' => e = .returned (.int .i64 f1) ∧ w' = w := by
  obtain ⟨A0, c0, hb, hg, hr0, hq0⟩ := hI
  have hc1 := cellS74_1 hb
  clear hb hr0
  go_enter Try.func41, Try.ntmps41
  go_wp2
  go_ret
  exact ⟨rfl, rfl⟩
theorem wire_Left_ro (g : Nat) (f0 : List Int) (f1 f2 : Int) (w0 w : World) (hI : IsS74 w0 w g f0 f1 f2) (hf : 0 ≤ f1 ∧ f1 ≤ f0.length) (hl : f0.length ≤ 140737488355328) : Calls Try.prog 40 #[.pointer (some ⟨g, 0, none⟩)] w fun e w' => e = .returned (.int .i64 ((f0.length : Int) - f1)) ∧ ∃ n, w' = w.drewN n := by
  obtain ⟨A0, c0, hb, hg, hr0, hq0⟩ := hI
  have hc0 := cellS74_0 hb
  have hc1 := cellS74_1 hb
  have hw : wrap64 ((f0.length : Int) - f1) = (f0.length : Int) - f1 := by unfold wrap64; omega
  clear hb hr0
  go_enter Try.func40, Try.ntmps40
  go_wp2
  repeat (go_quiet (fail); try go_wp2)
  go_ret
  first | exact ⟨rfl, _, rfl⟩ | exact ⟨by simp [hw], _, rfl⟩
theorem wire_End_ro (g : Nat) (f0 : List Int) (f1 : Int) (w0 w : World) (hI : IsS74 w0 w g f0 f1 0) (hf : f1 = f0.length) (hl : f0.length ≤ 140737488355328) : Calls Try.prog 44 #[.pointer (some ⟨g, 0, none⟩)] w fun e w' => e = .returned (.int .i64 0) ∧ ∃ n, w' = w.drewN n := by
  have hE := wire_Err_ro g f0 f1 0 w0 w hI
  have hL := wire_Left_ro g f0 f1 0 w0 w hI (by omega) hl
  rw [hf, Int.sub_self] at hL
  clear hI
  go_enter Try.func44, Try.ntmps44
  go_wp2_with fail
  refine hE.mono ?_; rintro e w1 ⟨rfl, rfl⟩
  go_wp2_with fail
  refine hL.mono ?_; rintro e w2 ⟨rfl, n, rfl⟩
  go_wp2_with fail
  go_ret
  exact ⟨rfl, n, rfl⟩
set_option maxHeartbeats 1000000 in
set_option maxRecDepth 20000 in
theorem rematchlaw01_wakes.calls0 (w : World) : Calls Try.prog 26 #[] w fun e w' => e = .returned (.bool true) ∧ Below w.heap.size w w' := by
  have hlit : (w.alloc (.cells #[.int .u8 97] 5 (1, 2))).heap[w.heap.size]? = some (.cells #[.int .u8 97] 5 (1, 2)) := heap_alloc_new w _
  have kc := Lib.run_convert_bytes_const (P := Try.prog) w 43 5 #[.int .u8 97] 1 1 Try.underlying43 (by kernel_rfl)
  have hCa := Lib.hid (wire_lit (l := [97]) hlit (by decide))
  have H0 : Below w.heap.size w (w.alloc (.cells #[.int .u8 97] 5 (1, 2))) := below_alloc (Below.refl _ _) _
  clear hlit
  have f1 : wire_Put.f [97] 300 = some [97, 172, 2] := by decide +kernel
  have f2 : wire_PutSigned.f [] (-2) = some [3] := by decide +kernel
  have f3 : wire_PutFixed.f [] 16909060 = some [1, 2, 3, 4] := by decide +kernel
  have f4 : wire_PutText.f [1, 2, 3, 4] ⟨#[104, 105]⟩ = some [1, 2, 3, 4, 2, 104, 105] := by decide +kernel
  have f5 : wire_Reader_Fixed.f 5 [1, 2, 3, 4, 2, 104, 105] 0 0 = some (16909060, 4, 0) := by decide +kernel
  have f6 : wire_Reader_Text.f [1, 2, 3, 4, 2, 104, 105] 4 0 5 = some (⟨#[104, 105]⟩, 7, 0) := by decide +kernel
  have f7 : wire_Reader_Num.f [128, 0] 0 0 = some (0, 0, 4) := by decide +kernel
  have f1 := Lib.hid f1; have f2 := Lib.hid f2; have f3 := Lib.hid f3; have f4 := Lib.hid f4; have f5 := Lib.hid f5; have f6 := Lib.hid f6; have f7 := Lib.hid f7
  go_enter Try.func26, Try.ntmps26
  go_wp2_with fail
  refine (wire_Put.calls (some ⟨w.heap.size, 0, none⟩) 1 [97] 300 _ _ hCa.out (by decide) f1.out).mono ?_; rintro e w1 ⟨v1, rfl, R1, b1⟩
  obtain ⟨A1, c1, rfl, q1, C1⟩ := wire_form R1
  have H1 := below_then H0 H0.size b1
  have C1 := Lib.hid C1
  clear R1 b1 H0 hCa kc
  go_wp2_with fail
  refine (wire_PutSigned.calls none 0 [] (-2) _ _ (Kd.C_nil _ _) (Nat.le_refl _) f2.out).mono ?_; rintro e w2 ⟨v2, rfl, R2, b2⟩
  obtain ⟨A2, c2, rfl, q2, C2⟩ := wire_form R2
  have C1 := Lib.hid (Kd.C_below C1.out b2)
  have H2 := below_then H1 H1.size b2
  have C2 := Lib.hid C2
  clear R2 b2 H1
  go_wp2_with fail
  refine (wire_PutFixed.calls none 0 [] 16909060 _ _ (Kd.C_nil _ _) (Nat.le_refl _) f3.out).mono ?_; rintro e w3 ⟨v3, rfl, R3, b3⟩
  obtain ⟨A3, c3, rfl, q3, C3⟩ := wire_form R3
  have C1 := Lib.hid (Kd.C_below C1.out b3)
  have C2 := Lib.hid (Kd.C_below C2.out b3)
  have H3 := below_then H2 H2.size b3
  clear R3 b3 H2
  go_wp2_with fail
  refine (wire_PutText.calls A3 c3 [1, 2, 3, 4] ⟨#[104, 105]⟩ _ _ C3 q3 f4.out).mono ?_; rintro e w4 ⟨v4, rfl, R4, b4⟩
  obtain ⟨A4, c4, rfl, q4, C4⟩ := wire_form R4
  have C1 := Lib.hid (Kd.C_below C1.out b4)
  have C2 := Lib.hid (Kd.C_below C2.out b4)
  have H4 := below_then H3 H3.size b4
  clear R4 b4 H3 C3
  have C4 := Lib.hid C4
  go_wp2_with fail
  refine (wire_Of.calls A4 c4 [1, 2, 3, 4, 2, 104, 105] _ _ _ w4 w4 (Below.refl _ _) C4.out q4 rfl).mono ?_; rintro e w5 ⟨g1, rfl, I5, B5, _⟩
  have I5 := Lib.hid I5
  go_wp2_with fail
  refine (wire_Reader_Fixed.calls 5 g1 _ _ _ _ _ _ w4 _ I5.out B5 f5.out).mono ?_; rintro e w6 ⟨rfl, I6, B6, _⟩
  clear I5 B5
  have I6 := Lib.hid I6
  go_wp2_with fail
  refine (wire_Reader_Text.calls g1 _ _ _ 5 _ _ _ w4 _ I6.out B6 f6.out).mono ?_; rintro e w7 ⟨rfl, I7, B7, _⟩
  clear I6 B6
  have I7 := Lib.hid I7
  have hlit := wire_lit (l := [128, 0]) (heap_alloc_new w7 (.cells #[.int .u8 128, .int .u8 0] 5)) (by decide)
  have B8 : Below w4.heap.size w4 (w7.alloc (.cells #[.int .u8 128, .int .u8 0] 5)) := below_alloc B7 _
  have I8 := Lib.hid (I7.out.alloc (.cells #[.int .u8 128, .int .u8 0] 5))
  clear I7 B7
  have hlit := Lib.hid hlit
  go_wp2_with fail
  refine (wire_Of.calls (some ⟨w7.heap.size, 0, none⟩) 2 [128, 0] _ _ _ (w7.alloc (.cells #[.int .u8 128, .int .u8 0] 5)) _ (Below.refl _ _) hlit.out (by decide) rfl).mono ?_; rintro e w9 ⟨g2, rfl, J9, D9, _⟩
  have I9 := Lib.hid (I8.out.below D9)
  have B9 := below_then B8 B8.size D9
  have J9 := Lib.hid J9
  generalize w7.alloc (.cells #[.int .u8 128, .int .u8 0] 5) = w8 at *
  clear hlit
  go_wp2_with fail
  refine (wire_Reader_Num.calls g2 _ _ _ _ _ _ w8 _ J9.out D9 f7.out).mono ?_; rintro e w10 ⟨rfl, J10, D10, _⟩
  have I10 := Lib.hid (I8.out.below D10)
  have B10 := below_then B8 B8.size D10
  have J10 := Lib.hid J10
  clear J9 D9 I9 B9 I8 B8
  have C1 := Lib.hid (Kd.C_below C1.out B10)
  have C2 := Lib.hid (Kd.C_below C2.out B10)
  have H10 := below_then H4 H4.size B10
  have s1 := Kd.C_string (P := Try.prog) (src := 43) (dst := 9) (n := 3) (c := c1) Try.underlying43 (by kernel_rfl) Try.underlying9 C1.out
  have s2 := Kd.C_string (P := Try.prog) (src := 43) (dst := 9) (n := 1) (c := c2) Try.underlying43 (by kernel_rfl) Try.underlying9 C2.out
  rw [show strOfNums [97, 172, 2] = ⟨#[97, 172, 2]⟩ by decide +kernel] at s1
  rw [show strOfNums [3] = ⟨#[3]⟩ by decide +kernel] at s2
  have hE := wire_End_ro g1 _ 7 w4 w10 I10.out rfl (by decide)
  have hEr := fun n => wire_Err_ro g2 _ _ _ w8 (w10.drewN n) (J10.out.drewN n)
  have hL := fun n => wire_Left_ro g2 _ _ _ w8 (w10.drewN n) (J10.out.drewN n) (by decide) (by decide)
  have hE := Lib.hid hE; have hEr := Lib.hid hEr; have hL := Lib.hid hL
  clear C1 C2
  go_wp2_with fail
  refine hE.out.mono ?_; rintro e w11 ⟨rfl, n, rfl⟩
  go_wp2_with fail
  refine (hEr.out n).mono ?_; rintro e w12 ⟨rfl, rfl⟩
  go_wp2_with fail
  refine (hL.out n).mono ?_; rintro e w13 ⟨rfl, m, rfl⟩
  go_wp2_with fail
  go_ret
  exact ⟨rfl, pw_below_drewN H10 _⟩
end Go.Proofs.Ytfdbibddhneklac.PWireBack
