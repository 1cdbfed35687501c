import Derived.Test.YtfdbibddhneklacVWireRef
import Derived.Test.YtfdbibddhneklacVWire
import Derived.Laws.MakeOwn
import Derived.Lib.QuietBelow
import Derived.BigQuiet
namespace Go.Proofs.Ytfdbibddhneklac.PWireBack
open Go.RowKit Go.Sort Go.Proofs.YtfdbibddhneklacW.PrintWords Go.Proofs.YtfdbibddhneklacW.PrintLast Go.Proofs.YtfdbibddhneklacW.PrintMore
open Go.Proofs.Ytfdbibddhneklac.PWirePuts (rematchref01_Varint.f rematchref01_Zigzag.f rematchref01_Fixed.f rematchref01_Varint.calls rematchref01_Zigzag.calls rematchref01_Fixed.calls)
set_option linter.unusedVariables false
set_option maxHeartbeats 4000000
set_option maxRecDepth 20000
theorem wire_Puts_big (n m : Int) (s : ByteArray) (A : Option Addr) (len cap : Nat) (w : World) (h : 2000 < s.size ∨ 2000 < len) :
    Calls Try.prog 4 #[.slice A len cap, .int .u64 n, .int .i64 m, .string s] w fun e w' => e = .returned (.bool true) ∧ Below w.heap.size w w' := by
  have hw := Lib.hid (fun W => rematchlaw01_wakes.calls0 W)
  by_cases hl : 2000 < len
  · have hl' : (2000 : Int) < len := by omega
    go_enter Try.func4, Try.ntmps4
    go_wp2_with fail
    refine (hw.out _).mono ?_; rintro e w1 ⟨rfl, b⟩
    go_wp2_with fail
    go_ret
    exact ⟨rfl, b⟩
  · have hl' : ¬ (2000 : Int) < len := by omega
    have hs' : (2000 : Int) < s.size := by omega
    go_enter Try.func4, Try.ntmps4
    go_wp2_with fail
    refine (hw.out _).mono ?_; rintro e w1 ⟨rfl, b⟩
    go_wp2_with fail
    go_ret
    exact ⟨rfl, b⟩
theorem wire_room (w : World) (n : Nat) (hn : n ≤ 100000) (x : Int) (hx : x = (n : Int)) : ∃ w1, (Instr.makeSlice 43 (.int .i64 0) (.int .i64 x)).run Try.prog w = .ok (.slice (some ⟨w.heap.size, 0, none⟩) 0 n) w1 ∧ Kd.R (Kd.int .u8) 5 w1 w.heap.size (fun _ => True) (.slice (some ⟨w.heap.size, 0, none⟩) 0 n) [] ∧ Below w.heap.size w w1 := by
  subst hx
  obtain ⟨i0, hi, hzz⟩ := Option.map_eq_some_iff.1 info5
  simp only [Prod.mk.injEq] at hzz
  obtain ⟨hz0, hz1, hz2⟩ := hzz
  obtain ⟨w1, h1, h2, h3⟩ := run_make_own (P := Try.prog) w w.heap.size 43 5 i0 _ 1 Try.underlying43 hi hz0 hz1 .i64 .i64 n (by rw [hz2]; omega) (by simp [maxLen]; omega) (Nat.le_refl _)
  exact ⟨w1, h1, Kd.R_of_own (h1 := fun _ => rfl) (xs := []) h2 (fun _ _ => trivial), (Below.refl _ _).grown h3 (Nat.le_refl _) (fun _ hk => by cases hk)⟩
theorem wire_xor_range (a b : Int) : 0 ≤ Go.bits .xor .u64 a b ∧ Go.bits .xor .u64 a b < 18446744073709551616 := by
  simp only [Go.bits]
  rw [IntKind.wrap_u64]
  omega
theorem wire_conv {w : World} {A : Option Addr} {c : Nat} {X : List Int} {s : ByteArray} (hC : Kd.C (Kd.int .u8) w A X.length X) (e : strOfNums X = s) (d : Nat) (os : Array Obj) :
    (convert 43 9 (.slice A X.length c)).run Try.prog (grow (redrawn w d) os) = .ok (.string s) (grow (redrawn w d) os) := by
  subst e
  exact Kd.C_string (P := Try.prog) (src := 43) (dst := 9) (c := c) Try.underlying43 (by kernel_rfl) Try.underlying9 (Kd.C_below hC (below_regrown w d os))
theorem wire_zig_call (a0 : Int) (r : Int) (w : World) (h : rematchref01_Zigzag.f a0 = some r) :
    Calls Try.prog 32 #[.int .i64 a0] w fun e w' => e = .returned (.int .u64 r) ∧ Below w.heap.size w w' :=
  (rematchref01_Zigzag.calls a0 r w h).mono fun e w' ⟨he, hd⟩ => ⟨he, hd.below⟩
theorem wire_Puts_walk (n m : Int) (s : ByteArray) (A : Option Addr) (cap : Nat) (z : List Int) (w : World) (hn : 0 ≤ n ∧ n < 18446744073709551616) (hm : -9223372036854775808 ≤ m ∧ m < 9223372036854775808)
    (hs : s.size ≤ 2000) (hzl : z.length ≤ 2000) (hz : ∀ x ∈ z, 0 ≤ x ∧ x < 256) (hC : Kd.C (Kd.int .u8) w A z.length z) (hcap : z.length ≤ cap) :
    Calls Try.prog 4 #[.slice A z.length cap, .int .u64 n, .int .i64 m, .string s] w fun e w' => e = .returned (.bool true) ∧ Below w.heap.size w w' := by
  have hwk := Lib.hid (fun W => rematchlaw01_wakes.calls0 W)
  obtain ⟨n1, hn1⟩ : ∃ x : Int, x = Go.bits .xor .u64 n 1 := ⟨_, rfl⟩
  have hr1 : 0 ≤ n1 ∧ n1 < 18446744073709551616 := by
    rw [hn1]
    exact wire_xor_range n 1
  obtain ⟨X1, hX1⟩ : ∃ X, X = z ++ wire_vb 9 n := ⟨_, rfl⟩
  obtain ⟨X2, hX2⟩ : ∃ X, X = z ++ wire_vb 9 n1 := ⟨_, rfl⟩
  obtain ⟨X3, hX3⟩ : ∃ X, X = z ++ wire_vb 9 (wire_zig m) := ⟨_, rfl⟩
  obtain ⟨X4, hX4⟩ : ∃ X, X = z ++ [(n % 4294967296) / 16777216, (n % 4294967296) / 65536 % 256, (n % 4294967296) / 256 % 256, (n % 4294967296) % 256] := ⟨_, rfl⟩
  obtain ⟨X5, hX5⟩ : ∃ X, X = z ++ wire_vb 9 (s.size : Int) ++ bytesOf s := ⟨_, rfl⟩
  obtain ⟨own, hown⟩ : ∃ o, o = strOfNums z := ⟨_, rfl⟩
  obtain ⟨V1, hV1⟩ : ∃ o, o = strOfNums (wire_vb 9 n) := ⟨_, rfl⟩
  obtain ⟨V2, hV2⟩ : ∃ o, o = strOfNums (wire_vb 9 n1) := ⟨_, rfl⟩
  obtain ⟨V3, hV3⟩ : ∃ o, o = strOfNums (wire_vb 9 (wire_zig m)) := ⟨_, rfl⟩
  obtain ⟨V4, hV4⟩ : ∃ o, o = strOfNums [(n % 4294967296) / 16777216, (n % 4294967296) / 65536 % 256, (n % 4294967296) / 256 % 256, (n % 4294967296) % 256] := ⟨_, rfl⟩
  obtain ⟨V5, hV5⟩ : ∃ o, o = strOfNums (wire_vb 9 (s.size : Int)) := ⟨_, rfl⟩
  have g1 : Hid (wire_Put.f z n = some X1) := Lib.hid (by rw [hX1]; exact wire_Put_nil n z (by omega) hn)
  have g2 : Hid (wire_Put.f z n1 = some X2) := Lib.hid (by rw [hX2]; exact wire_Put_nil n1 z (by omega) hr1)
  have g3 : Hid (wire_PutSigned.f z m = some X3) := Lib.hid (by rw [hX3]; exact wire_PutSigned_at m z (by omega) hm)
  have g4 : Hid (wire_PutFixed.f z (n % 4294967296) = some X4) := Lib.hid (by
    rw [hX4]
    unfold wire_PutFixed.f
    rw [if_pos ⟨by omega, by omega, by omega⟩])
  have g5 : Hid (wire_PutText.f z s = some X5) := Lib.hid (by rw [hX5]; exact wire_PutText_at s z (by omega) hs)
  have r1 : Hid (rematchref01_Varint.f 10 n = some V1) := Lib.hid (by rw [hV1]; exact wire_ref_num n hn)
  have r2 : Hid (rematchref01_Varint.f 10 n1 = some V2) := Lib.hid (by rw [hV2]; exact wire_ref_num n1 hr1)
  have r3 : Hid (rematchref01_Varint.f 10 (wire_zig m) = some V3) := Lib.hid (by rw [hV3]; exact wire_ref_num _ (wire_zig_range m hm))
  have r3z : Hid (rematchref01_Zigzag.f m = some (wire_zig m)) := Lib.hid (wire_ref_zig m hm)
  have r4 : Hid (rematchref01_Fixed.f (n % 4294967296) = some V4) := Lib.hid (by rw [hV4]; exact wire_ref_fixed _ (by omega))
  have r5 : Hid (rematchref01_Varint.f 10 (s.size : Int) = some V5) := Lib.hid (by rw [hV5]; exact wire_ref_num _ (by omega))
  have e1 : Hid (strOfNums X1 = own ++ V1) := Lib.hid (by rw [hX1, hown, hV1, wire_str_app])
  have e2 : Hid (strOfNums X2 = own ++ V2) := Lib.hid (by rw [hX2, hown, hV2, wire_str_app])
  have e3 : Hid (strOfNums X3 = own ++ V3) := Lib.hid (by rw [hX3, hown, hV3, wire_str_app])
  have e4 : Hid (strOfNums X4 = own ++ V4) := Lib.hid (by rw [hX4, hown, hV4, wire_str_app])
  have e5 : Hid (strOfNums X5 = own ++ V5 ++ s) := Lib.hid (by rw [hX5, hown, hV5, wire_str_app, wire_str_app, wire_str_bytes])
  have so : own.size ≤ 2000 := by rw [hown, strOfNums_size]; omega
  have s1 : V1.size ≤ 10 := by rw [hV1, strOfNums_size]; exact (wire_vb_len 9 _).2
  have s2 : V2.size ≤ 10 := by rw [hV2, strOfNums_size]; exact (wire_vb_len 9 _).2
  have s3 : V3.size ≤ 10 := by rw [hV3, strOfNums_size]; exact (wire_vb_len 9 _).2
  have s4 : V4.size ≤ 10 := by rw [hV4, strOfNums_size]; simp
  have s5 : V5.size ≤ 10 := by rw [hV5, strOfNums_size]; exact (wire_vb_len 9 _).2
  have o1 : own.size + V1.size ≤ 9223372036854775807 := by omega
  have o2 : own.size + V2.size ≤ 9223372036854775807 := by omega
  have o3 : own.size + V3.size ≤ 9223372036854775807 := by omega
  have o4 : own.size + V4.size ≤ 9223372036854775807 := by omega
  have o5 : own.size + V5.size ≤ 9223372036854775807 := by omega
  have o6 : own.size + V5.size + s.size ≤ 9223372036854775807 := by omega
  have Hown := Lib.hid hown
  have l1 : X1.length ≤ 3000 := by have := (wire_vb_len 9 n).2; rw [hX1, List.length_append]; omega
  clear hX1 hX2 hX3 hX4 hX5 hown hV1 hV2 hV3 hV4 hV5 s1 s2 s3 s4 s5 so
  have hs' : ¬ (2000 : Int) < s.size := by omega
  have hz' : ¬ (2000 : Int) < z.length := by omega
  have hwb : IntKind.u32.wrap n = n % 4294967296 := IntKind.wrap_u32 n
  have hws : IntKind.u64.wrap (s.size : Int) = s.size := by rw [IntKind.wrap_u64]; omega
  obtain ⟨N, hN⟩ : ∃ N : Nat, N = z.length + 20 := ⟨_, rfl⟩
  have hw20 : (z.length : Int) + 20 = (N : Int) := by rw [hN]; rfl
  have c0 := Kd.C_string (P := Try.prog) (src := 43) (dst := 9) (c := cap) (w := w) Try.underlying43 (by kernel_rfl) Try.underlying9 hC
  rw [← Hown.out] at c0
  have HC := Lib.hid hC
  have HZ := Lib.hid hz
  have Hr1 := Lib.hid hr1
  have hN2 : N ≤ 100000 := by rw [hN]; exact Nat.le_trans (Nat.add_le_add_right hzl 20) (by decide)
  clear hN
  have mk := Lib.hid (wire_room w N hN2 _ hw20)
  clear hw20
  have qqq := 0
  clear hC hz hr1
  subst hn1
  go_enter Try.func4, Try.ntmps4
  obtain ⟨w1, mk1, R1, B1⟩ := mk.out
  have HC1 := Lib.hid (Kd.C_below HC.out B1)
  have R1 := Lib.hid R1
  have B1 := Lib.hid B1
  go_wp2_with (first
    | (at_builtin; refine Kd.R_append_row (Value.int .u8) (0 : Int) (w0 := w) w.heap.size rfl (.tmp 30) (.tmp 31) 43 5 (.int .u8 0) 1 rfl Try.underlying43 info5 rfl (by decide) _ [] z A z.length cap (fun _ => True) rfl rfl (fun _ _ => trivial) R1.out HC1.out B1.out B1.out.size (by simp; omega) ?_; intro v2 w2 R2 b2 _ _; clear R1))
  rw [List.nil_append] at R2
  obtain ⟨A2, c2, rfl, q2, C2⟩ := wire_form R2
  have H2 := b2
  have D2 := Lib.hid (Kd.C_below HC.out H2)
  have C2 := Lib.hid C2
  clear R2 b2 B1 HC1 mk1 mk
  refine (wire_Put.calls A2 c2 z n _ _ C2.out q2 g1.out).mono ?_; rintro e w3 ⟨v3, rfl, R3, b3⟩
  obtain ⟨A3, c3, rfl, q3, C3⟩ := wire_form R3
  have H3 := below_then H2 H2.size b3
  have D3 := Lib.hid (Kd.C_below D2.out b3)
  have E3 := Lib.hid (Kd.C_below C2.out b3)
  have C3 := Lib.hid C3
  clear R3 b3 H2 D2 C2
  go_wp2_with fail
  refine (wire_Put.calls A2 c2 z _ _ _ E3.out q2 g2.out).mono ?_; rintro e w4 ⟨v4, rfl, R4, b4⟩
  obtain ⟨A4, c4, rfl, q4, C4⟩ := wire_form R4
  have H4 := below_then H3 H3.size b4
  have D4 := Lib.hid (Kd.C_below D3.out b4)
  have C3 := Lib.hid (Kd.C_below C3.out b4)
  have C4 := Lib.hid C4
  clear R4 b4 H3 D3 E3
  go_wp2_with fail
  refine (wire_PutSigned.calls A cap z m _ _ D4.out hcap g3.out).mono ?_; rintro e w5 ⟨v5, rfl, R5, b5⟩
  obtain ⟨A5, c5, rfl, q5, C5⟩ := wire_form R5
  have H5 := below_then H4 H4.size b5
  have D5 := Lib.hid (Kd.C_below D4.out b5)
  have C3 := Lib.hid (Kd.C_below C3.out b5)
  have C4 := Lib.hid (Kd.C_below C4.out b5)
  have C5 := Lib.hid C5
  clear R5 b5 H4 D4
  go_wp2_with fail
  refine (wire_PutFixed.calls A cap z (n % 4294967296) _ _ D5.out hcap g4.out).mono ?_; rintro e w6 ⟨v6, rfl, R6, b6⟩
  obtain ⟨A6, c6, rfl, q6, C6⟩ := wire_form R6
  have H6 := below_then H5 H5.size b6
  have D6 := Lib.hid (Kd.C_below D5.out b6)
  have C3 := Lib.hid (Kd.C_below C3.out b6)
  have C4 := Lib.hid (Kd.C_below C4.out b6)
  have C5 := Lib.hid (Kd.C_below C5.out b6)
  have C6 := Lib.hid C6
  clear R6 b6 H5 D5
  go_wp2_with fail
  refine (wire_PutText.calls A cap z s _ _ D6.out hcap g5.out).mono ?_; rintro e w7 ⟨v7, rfl, R7, b7⟩
  obtain ⟨A7, c7, rfl, q7, C7⟩ := wire_form R7
  have H7 := below_then H6 H6.size b7
  have D7 := Kd.C_below D6.out b7
  have k3 := wire_conv (c := c3) (Kd.C_below C3.out b7) e1.out
  have k4 := wire_conv (c := c4) (Kd.C_below C4.out b7) e2.out
  have k5 := wire_conv (c := c5) (Kd.C_below C5.out b7) e3.out
  have k6 := wire_conv (c := c6) (Kd.C_below C6.out b7) e4.out
  have k7 := wire_conv (c := c7) C7 e5.out
  have k0 := wire_conv (c := cap) D7 Hown.out.symm
  have HE := Lib.hid H7
  clear R7 b7 H6 D6 D7 C3 C4 C5 C6 C7 q2 q3 q4 q5 q6 q7 H7 HC HZ Hr1 g1 g2 g3 g4 g5 e1 e2 e3 e4 e5 c0 Hown
  have rc1 := Lib.hid (fun W => rematchref01_Varint.calls 10 _ _ W r1.out)
  have rc2 := Lib.hid (fun W => rematchref01_Varint.calls 10 _ _ W r2.out)
  have rc3 := Lib.hid (fun W => rematchref01_Varint.calls 10 _ _ W r3.out)
  have rcz := Lib.hid (fun W => wire_zig_call _ _ W r3z.out)
  have rc4 := Lib.hid (fun W => rematchref01_Fixed.calls _ _ W r4.out)
  have rc5 := Lib.hid (fun W => rematchref01_Varint.calls 10 _ _ W r5.out)
  clear r1 r2 r3 r3z r4 r5
  go_wp2_with fail
  refine wp_region_quiet_below (by kernel_rfl) (by kernel_rfl) ?_
  repeat (go_big_quiet_step (first | (go_at_call 31; first | with_reducible exact Calls.regrown_of (rc1.out _) | with_reducible exact Calls.regrown_of (rc2.out _) | with_reducible exact Calls.regrown_of (rc3.out _) | with_reducible exact Calls.regrown_of (rc5.out _)) | (go_at_call 32; exact Calls.regrown_of (rcz.out _)) | (go_at_call 33; exact Calls.regrown_of (rc4.out _)) | (go_at_call 26; exact Calls.regrown_of (hwk.out _))))
  refine wpQuiet_nil ?_
  intro _ hw'
  obtain ⟨⟨dq, osq⟩, hw''⟩ := hw'
  subst hw''
  go_wp2_with fail
  go_ret
  exact ⟨rfl, below_then HE.out HE.out.size (below_regrown _ _ _)⟩
end Go.Proofs.Ytfdbibddhneklac.PWireBack
