import Derived.Test.YtfdbibddhneklacVWirePure
import Derived.Test.YtfdbibddhneklacPWirePutsx3
namespace Go.Proofs.Ytfdbibddhneklac.PWireBack
open Go.RowKit Go.Proofs.YtfdbibddhneklacW.PrintWords Go.Proofs.YtfdbibddhneklacW.PrintLast Go.Proofs.YtfdbibddhneklacW.PrintMore
open Go.Proofs.Ytfdbibddhneklac.PWirePuts (rematchref01_Varint.f rematchref01_Zigzag.f rematchref01_Fixed.f)
set_option linter.unusedVariables false
theorem wire_str_app (a b : List Int) : strOfNums (a ++ b) = strOfNums a ++ strOfNums b := by
  unfold strOfNums
  rw [List.map_append]
  apply ByteArray.ext
  simp
theorem wire_ref_varint (k : Nat) : ∀ n : Int, 0 ≤ n → n < 128 * 128 ^ k → n < 18446744073709551616 → k ≤ 9 → rematchref01_Varint.f (k + 1) n = some (strOfNums (wire_vb k n)) := by
  induction k with
  | zero =>
    intro n h0 h1 _ _
    simp only [Int.pow_zero, Int.mul_one] at h1
    rw [rematchref01_Varint.f, if_pos h1]
    rfl
  | succ k ih =>
    intro n h0 h1 h2 hk
    by_cases hn : n < 128
    · rw [rematchref01_Varint.f, if_pos hn, wire_vb, if_neg (by omega)]
    · have hp : (128 : Int) ^ (k + 1) = 128 * 128 ^ k := by rw [Int.pow_succ]; omega
      rw [rematchref01_Varint.f, if_neg hn]
      simp only [Option.bind_some]
      have e1 : Int.tdiv n 128 = n / 128 := Int.tdiv_eq_ediv_of_nonneg h0
      have e2 : Int.tmod n 128 = n % 128 := Int.tmod_eq_emod_of_nonneg h0
      have w1 : IntKind.u64.wrap (n / 128) = n / 128 := by rw [IntKind.wrap_u64]; omega
      have w2 : IntKind.u64.wrap (n % 128 + 128) % 256 = n % 128 + 128 := by rw [IntKind.wrap_u64]; omega
      have hl := (wire_vb_len k (n / 128)).2
      rw [e1, e2, w1, w2, ih (n / 128) (by omega) (by omega) (by omega) (by omega)]
      simp only [Option.bind_some]
      rw [if_pos (by rw [strOfNums_size, strOfNums_size, List.length_singleton]; omega), ← wire_str_app, wire_vb, if_pos (by omega)]
      rfl
theorem wire_ref_num (n : Int) (h : 0 ≤ n ∧ n < 18446744073709551616) : rematchref01_Varint.f 10 n = some (strOfNums (wire_vb 9 n)) :=
  wire_ref_varint 9 n h.1 (by omega) h.2 (by omega)
theorem wire_ref_zig (m : Int) (h : -9223372036854775808 ≤ m ∧ m < 9223372036854775808) : rematchref01_Zigzag.f m = some (wire_zig m) := by
  unfold rematchref01_Zigzag.f wire_zig
  simp only [IntKind.wrap_u64]
  by_cases h0 : 0 ≤ m
  · rw [if_pos h0, if_pos h0, show 2 * (m % 18446744073709551616) % 18446744073709551616 = 2 * m by omega]
  · rw [if_neg h0, if_neg h0]
    have e1 : wrap64 (m + 1) = m + 1 := by unfold wrap64; omega
    have e2 : wrap64 (-(m + 1)) = -(m + 1) := by unfold wrap64; omega
    rw [e1, e2, show (2 * (-(m + 1) % 18446744073709551616) % 18446744073709551616 + 1) % 18446744073709551616 = -2 * m - 1 by omega]
theorem wire_ref_fixed (n : Int) (h : 0 ≤ n ∧ n < 4294967296) : rematchref01_Fixed.f n = some (strOfNums [n / 16777216, n / 65536 % 256, n / 256 % 256, n % 256]) := by
  unfold rematchref01_Fixed.f
  rw [Int.tdiv_eq_ediv_of_nonneg h.1, Int.tdiv_eq_ediv_of_nonneg h.1, Int.tdiv_eq_ediv_of_nonneg h.1, Int.tmod_eq_emod_of_nonneg h.1,
    show n / 16777216 % 4294967296 % 256 = n / 16777216 by omega, show n / 65536 % 4294967296 % 256 = n / 65536 % 256 by omega, show n / 256 % 4294967296 % 256 = n / 256 % 256 by omega, show n % 256 % 256 = n % 256 by omega]
end Go.Proofs.Ytfdbibddhneklac.PWireBack
