/- Layer 3 (delta): wakes: a difference that is known. -/
import Derived.Test.YtocadookdkmahaaG7
import Derived.Lib.SlBytesConst
namespace Go.Proofs.Ytocadookdkmahaa.PDl
open Go.RowKit Go.Proofs.YtocadookdkmahaaW.PrintWords Go.Proofs.YtocadookdkmahaaW.PrintLast Go.Proofs.YtocadookdkmahaaW.PrintMore
open Go.Proofs.Ytocadookdkmahaa.PLz (IsB lz_get_cell wire_form info5 IsS72 wire_lit wire_Reader_Int.f wire_Reader_Text.f wire_bytes)
open Go.Proofs.Ytocadookdkmahaa.PDeltaDiffs (delta_mix.f delta_mix.calls slices_Equal_byte_byte.f slices_Equal_byte_byte.calls)
attribute [local go_sem] max2_int min2_int max_two min_two max_three min_three max_four min_four   -- for this text's walks alone
set_option linter.unusedVariables false
set_option linter.unusedSimpArgs false
set_option maxHeartbeats 4000000
set_option maxRecDepth 20000
theorem dl_const (W : World) (l : List Int) (hl : l.length ≤ 140737488355328) : Kd.C (Kd.int .u8) (W.alloc (.cells (l.map (Value.int .u8)).toArray 5 (l.length, l.length + 1))) (some ⟨W.heap.size, 0, none⟩) l.length l := wire_lit (heap_alloc_new W _) hl
theorem dl_mix1 : delta_mix.f 9 [97, 98, 99] [97, 98, 100] = some [0, 0, 7] := by decide +kernel
theorem dl_mix2 : delta_mix.f 9 [97, 98, 99, 100, 101, 102, 103, 104] [97, 98, 99] = some [0, 0, 0] := by decide +kernel
theorem dl_diff1 : dl_diff [0, 0, 7] 3 = [3, 2, 1, 7] := by decide +kernel
theorem dl_diff2 : dl_diff [0, 0, 0] 3 = [3] := by decide +kernel
theorem dl_app1 : dl_apply 9 [97, 98, 99] [3, 2, 1, 7] 3 = some ([97, 98, 100], 0) := by decide +kernel
theorem dl_app2 : dl_apply 9 [97, 98, 99] [3, 2, 1, 7] 2 = some ([], 6) := by decide +kernel
theorem dl_isB1 : IsB [0, 0, 7] := by intro x hx; simp at hx; omega
theorem dl_isB2 : IsB [0, 0, 0] := by intro x hx; simp at hx; omega
theorem wakes_calls (w : World) : Calls Try.prog 8 #[] w fun e w' => e = .returned (.bool true) ∧ Below w.heap.size w w' := by
  have kc1 := fun W : World => Lib.run_convert_bytes_const (P := Try.prog) W 22 5 #[.int .u8 97, .int .u8 98, .int .u8 99] 3 3 Try.underlying22 (by kernel_rfl)
  have kc2 := fun W : World => Lib.run_convert_bytes_const (P := Try.prog) W 22 5 #[.int .u8 97, .int .u8 98, .int .u8 100] 3 3 Try.underlying22 (by kernel_rfl)
  have kc3 := fun W : World => Lib.run_convert_bytes_const (P := Try.prog) W 22 5 #[.int .u8 97, .int .u8 98, .int .u8 99, .int .u8 100, .int .u8 101, .int .u8 102, .int .u8 103, .int .u8 104] 8 8 Try.underlying22 (by kernel_rfl)
  have kp1 : ∀ W : World, (convert 22 22 (.slice (some ⟨W.heap.size + 1, 0, none⟩) 3 3)).run Try.prog ((W.alloc (.cells #[.int .u8 97, .int .u8 98, .int .u8 99] 5 (3, 4))).alloc (.cells #[.int .u8 97, .int .u8 98, .int .u8 100] 5)) = .ok (.slice (some ⟨W.heap.size + 1, 0, none⟩) 3 3) ((W.alloc (.cells #[.int .u8 97, .int .u8 98, .int .u8 99] 5 (3, 4))).alloc (.cells #[.int .u8 97, .int .u8 98, .int .u8 100] 5 (3, 4))) := fun W => by
    have h := Lib.run_convert_bytes_const (P := Try.prog) (W.alloc (.cells #[.int .u8 97, .int .u8 98, .int .u8 99] 5 (3, 4))) 22 5 #[.int .u8 97, .int .u8 98, .int .u8 100] 3 3 Try.underlying22 (by kernel_rfl)
    rw [World.size_alloc] at h
    exact h
  have kp2 : ∀ W : World, (convert 22 22 (.slice (some ⟨W.heap.size + 1, 0, none⟩) 3 3)).run Try.prog ((W.alloc (.cells #[.int .u8 97, .int .u8 98, .int .u8 99, .int .u8 100, .int .u8 101, .int .u8 102, .int .u8 103, .int .u8 104] 5 (8, 9))).alloc (.cells #[.int .u8 97, .int .u8 98, .int .u8 99] 5)) = .ok (.slice (some ⟨W.heap.size + 1, 0, none⟩) 3 3) ((W.alloc (.cells #[.int .u8 97, .int .u8 98, .int .u8 99, .int .u8 100, .int .u8 101, .int .u8 102, .int .u8 103, .int .u8 104] 5 (8, 9))).alloc (.cells #[.int .u8 97, .int .u8 98, .int .u8 99] 5 (3, 4))) := fun W => by
    have h := Lib.run_convert_bytes_const (P := Try.prog) (W.alloc (.cells #[.int .u8 97, .int .u8 98, .int .u8 99, .int .u8 100, .int .u8 101, .int .u8 102, .int .u8 103, .int .u8 104] 5 (8, 9))) 22 5 #[.int .u8 97, .int .u8 98, .int .u8 99] 3 3 Try.underlying22 (by kernel_rfl)
    rw [World.size_alloc] at h
    exact h
  have HA := Lib.hid (Kd.C_below (dl_const w [97, 98, 99] (by decide)) (below_alloc (Below.refl _ _) (.cells #[.int .u8 97, .int .u8 98, .int .u8 100] 5 (3, 4))))
  have HD := Lib.hid (dl_const (w.alloc (.cells #[.int .u8 97, .int .u8 98, .int .u8 99] 5 (3, 4))) [97, 98, 100] (by decide))
  have H0 := Lib.hid (below_alloc (below_alloc (Below.refl w.heap.size w) (.cells #[.int .u8 97, .int .u8 98, .int .u8 99] 5 (3, 4))) (.cells #[.int .u8 97, .int .u8 98, .int .u8 100] 5 (3, 4)))
  clear kc2
  go_enter Try.func8, Try.ntmps8
  go_wp2_with fail
  refine (diff_calls 9 (some ⟨w.heap.size, 0, none⟩) 3 [97, 98, 99] (some ⟨w.heap.size + 1, 0, none⟩) 3 [97, 98, 100] [0, 0, 7] [3, 2, 1, 7] _ HA.out (by decide) (by have h := HD.out; rw [World.size_alloc] at h; exact h) (by decide) dl_mix1 dl_isB1 (by decide) (by decide) dl_diff1).mono ?_; rintro e w1 ⟨A1, c1, rfl, l1, C1, b1⟩
  have H1 := Lib.hid (below_then H0.out H0.out.size b1)
  have C1 := Lib.hid C1
  have HA1 := Lib.hid (Kd.C_below (dl_const w1 [97, 98, 99] (by decide)) (Below.refl _ _))
  have HC1 := Lib.hid (Kd.C_below C1.out (below_alloc (Below.refl _ _) (.cells #[.int .u8 97, .int .u8 98, .int .u8 99] 5 (3, 4))))
  have H1b := Lib.hid (below_alloc H1.out (.cells #[.int .u8 97, .int .u8 98, .int .u8 99] 5 (3, 4)))
  clear HA HD H0 b1
  go_wp2_with fail
  refine (apply_calls 9 (some ⟨w1.heap.size, 0, none⟩) 3 [97, 98, 99] A1 c1 [3, 2, 1, 7] 3 [97, 98, 100] 0 _ HA1.out (by decide) HC1.out l1 (by decide) dl_app1).mono ?_; rintro e w2 ⟨A2, c2, rfl, l2, C2, b2⟩
  have H2 := Lib.hid (below_then H1b.out H1b.out.size b2)
  have C1b := Lib.hid (Kd.C_below HC1.out b2)
  have C2 := Lib.hid C2
  have HA2 := Lib.hid (dl_const w2 [97, 98, 99] (by decide))
  have HC1b := Lib.hid (Kd.C_below C1b.out (below_alloc (Below.refl _ _) (.cells #[.int .u8 97, .int .u8 98, .int .u8 99] 5 (3, 4))))
  have HC2b := Lib.hid (Kd.C_below C2.out (below_alloc (Below.refl _ _) (.cells #[.int .u8 97, .int .u8 98, .int .u8 99] 5 (3, 4))))
  have H2b := Lib.hid (below_alloc H2.out (.cells #[.int .u8 97, .int .u8 98, .int .u8 99] 5 (3, 4)))
  clear HA1 HC1 H1b b2 C1 H1
  go_wp2_with fail
  refine (apply_calls 9 (some ⟨w2.heap.size, 0, none⟩) 3 [97, 98, 99] A1 c1 [3, 2, 1, 7] 2 [] 6 _ HA2.out (by decide) HC1b.out l1 (by decide) dl_app2).mono ?_; rintro e w3 ⟨A3, c3, rfl, l3, C3, b3⟩
  have H3 := Lib.hid (below_then H2b.out H2b.out.size b3)
  have s1 := Kd.C_string (P := Try.prog) (src := 22) (dst := 9) (n := 4) (c := c1) Try.underlying22 (by kernel_rfl) Try.underlying9 (Kd.C_below HC1b.out b3)
  have s2 := Kd.C_string (P := Try.prog) (src := 22) (dst := 9) (n := 3) (c := c2) Try.underlying22 (by kernel_rfl) Try.underlying9 (Kd.C_below HC2b.out b3)
  rw [show strOfNums [3, 2, 1, 7] = ⟨#[3, 2, 1, 7]⟩ by decide +kernel] at s1
  rw [show strOfNums [97, 98, 100] = ⟨#[97, 98, 100]⟩ by decide +kernel] at s2
  have HA4 := Lib.hid (Kd.C_below (dl_const w3 [97, 98, 99, 100, 101, 102, 103, 104] (by decide)) (below_alloc (Below.refl _ _) (.cells #[.int .u8 97, .int .u8 98, .int .u8 99] 5 (3, 4))))
  have HD4 := Lib.hid (dl_const (w3.alloc (.cells #[.int .u8 97, .int .u8 98, .int .u8 99, .int .u8 100, .int .u8 101, .int .u8 102, .int .u8 103, .int .u8 104] 5 (8, 9))) [97, 98, 99] (by decide))
  have H4 := Lib.hid (below_alloc (below_alloc H3.out (.cells #[.int .u8 97, .int .u8 98, .int .u8 99, .int .u8 100, .int .u8 101, .int .u8 102, .int .u8 103, .int .u8 104] 5 (8, 9))) (.cells #[.int .u8 97, .int .u8 98, .int .u8 99] 5 (3, 4)))
  clear HA2 HC1b HC2b H2b b3 C2 H2 C1b C3 H3 kp1
  go_wp2_with fail
  refine (diff_calls 9 (some ⟨w3.heap.size, 0, none⟩) 8 [97, 98, 99, 100, 101, 102, 103, 104] (some ⟨w3.heap.size + 1, 0, none⟩) 3 [97, 98, 99] [0, 0, 0] [3] _ HA4.out (by decide) (by have h := HD4.out; rw [World.size_alloc] at h; exact h) (by decide) dl_mix2 dl_isB2 (by decide) (by decide) dl_diff2).mono ?_; rintro e w5 ⟨A5, c5, rfl, l5, C5, b5⟩
  have H5 := Lib.hid (below_then H4.out H4.out.size b5)
  have s5 := Kd.C_string (P := Try.prog) (src := 22) (dst := 9) (n := 1) (c := c5) Try.underlying22 (by kernel_rfl) Try.underlying9 C5
  rw [show strOfNums [3] = ⟨#[3]⟩ by decide +kernel] at s5
  clear HA4 HD4 H4 b5 C5 s1 s2
  go_wp2_with fail
  go_ret
  exact ⟨rfl, H5.out⟩
end Go.Proofs.Ytocadookdkmahaa.PDl
