import Derived.Test.YtfdbibddhneklacVWire
import Derived.Laws.Bits64b
import Derived.Laws.BitsLemmas
namespace Go.Proofs.Ytfdbibddhneklac.PWireBack
open Go.RowKit Go.Proofs.YtfdbibddhneklacW.PrintWords Go.Proofs.YtfdbibddhneklacW.PrintLast Go.Proofs.YtfdbibddhneklacW.PrintMore
set_option linter.unusedVariables false
def wire_zig (m : Int) : Int := if 0 ≤ m then 2 * m else -2 * m - 1
theorem wire_xor0 (a : Int) (h : 0 ≤ a ∧ a < 18446744073709551616) : Go.bits .xor .u64 a 0 = a := by
  show IntKind.u64.wrap ((BitVec.ofInt 64 a ^^^ BitVec.ofInt 64 0).toNat : Int) = _
  rw [show BitVec.ofInt 64 0 = 0#64 from rfl, BitVec.xor_zero, IntKind.wrap_u64, BitVec.toNat_ofInt]
  omega
theorem wire_xor1 (a : Int) (h : 0 ≤ a ∧ a < 18446744073709551616) : Go.bits .xor .u64 a 18446744073709551615 = 18446744073709551615 - a := by
  show IntKind.u64.wrap ((BitVec.ofInt 64 a ^^^ BitVec.ofInt 64 18446744073709551615).toNat : Int) = _
  rw [show BitVec.ofInt 64 18446744073709551615 = BitVec.allOnes 64 by decide, BitVec.xor_allOnes, IntKind.wrap_u64, BitVec.toNat_not, BitVec.toNat_ofInt]
  omega
theorem wire_xori0 (a : Int) (h : -9223372036854775808 ≤ a ∧ a < 9223372036854775808) : Go.bits .xor .i64 a 0 = a := by
  show IntKind.i64.wrap ((BitVec.ofInt 64 a ^^^ BitVec.ofInt 64 0).toNat : Int) = _
  rw [show BitVec.ofInt 64 0 = 0#64 from rfl, BitVec.xor_zero, IntKind.wrap_i64, BitVec.toNat_ofInt]
  omega
theorem wire_xori1 (a : Int) (h : -9223372036854775808 ≤ a ∧ a < 9223372036854775808) : Go.bits .xor .i64 a (-1) = -a - 1 := by
  show IntKind.i64.wrap ((BitVec.ofInt 64 a ^^^ BitVec.ofInt 64 (-1)).toNat : Int) = _
  rw [show BitVec.ofInt 64 (-1) = BitVec.allOnes 64 by decide, BitVec.xor_allOnes, IntKind.wrap_i64, BitVec.toNat_not, BitVec.toNat_ofInt]
  omega
theorem wire_and1 (a : Int) (h : 0 ≤ a ∧ a < 18446744073709551616) : Go.bits .and .u64 a 1 = a % 2 := by
  obtain ⟨n, rfl⟩ := Int.eq_ofNat_of_zero_le h.1
  have := bits_and_u64_nat n 1 (by omega) (by decide)
  rw [show ((1 : Nat) : Int) = 1 from rfl] at this
  rw [this, Nat.and_one_is_mod]
  omega
theorem wire_zig_of (m : Int) (h : -9223372036854775808 ≤ m ∧ m < 9223372036854775808) : Go.bits .xor .u64 (IntKind.u64.wrap (wrap64 (m * 2))) (IntKind.u64.wrap (m / 9223372036854775808)) = wire_zig m := by
  unfold wire_zig
  by_cases h0 : 0 ≤ m
  · rw [if_pos h0]
    have e1 : m / 9223372036854775808 = 0 := by omega
    rw [e1, show IntKind.u64.wrap 0 = 0 by decide]
    have e2 : IntKind.u64.wrap (wrap64 (m * 2)) = 2 * m := by rw [IntKind.wrap_u64]; unfold wrap64; omega
    rw [e2, wire_xor0 _ (by omega)]
  · rw [if_neg h0]
    have e1 : m / 9223372036854775808 = -1 := by omega
    rw [e1, show IntKind.u64.wrap (-1) = 18446744073709551615 by decide]
    have e2 : IntKind.u64.wrap (wrap64 (m * 2)) = 18446744073709551616 + 2 * m := by rw [IntKind.wrap_u64]; unfold wrap64; omega
    rw [e2, wire_xor1 _ (by omega)]
    omega
theorem wire_zig_range (m : Int) (h : -9223372036854775808 ≤ m ∧ m < 9223372036854775808) : 0 ≤ wire_zig m ∧ wire_zig m < 18446744073709551616 := by
  unfold wire_zig; split <;> omega
theorem wire_unzig (m : Int) (h : -9223372036854775808 ≤ m ∧ m < 9223372036854775808) : Go.bits .xor .i64 (wrap64 (wire_zig m / 2)) (wrap64 (-(wrap64 (Go.bits .and .u64 (wire_zig m) 1)))) = m := by
  rw [wire_and1 _ (wire_zig_range m h)]
  unfold wire_zig
  by_cases h0 : 0 ≤ m
  · rw [if_pos h0]
    have e1 : wrap64 (-(wrap64 (2 * m % 2))) = 0 := by unfold wrap64; omega
    have e2 : wrap64 (2 * m / 2) = m := by unfold wrap64; omega
    rw [e1, e2, wire_xori0 _ h]
  · rw [if_neg h0]
    have e1 : wrap64 (-(wrap64 ((-2 * m - 1) % 2))) = -1 := by unfold wrap64; omega
    have e2 : wrap64 ((-2 * m - 1) / 2) = -m - 1 := by unfold wrap64; omega
    rw [e1, e2, wire_xori1 _ (by omega)]
    omega
theorem wire_getD_mid (pre : List Int) (x : Int) (t : List Int) : (pre ++ x :: t).getD pre.length 0 = x := by
  simp [List.getD_eq_getElem?_getD]
theorem wire_vr_vb (k : Nat) : ∀ (pre rest : List Int) (i : Nat) (n m : Int), pre.length = i → i + k = 9 → 0 ≤ m → m < 2 * 128 ^ k → (0 < i → m ≠ 0) →
    wire_vr (pre ++ (wire_vb k m ++ rest)) (k + 1) i n = (n + m * 128 ^ i, (i : Int) + (wire_vb k m).length, 0) := by
  induction k with
  | zero =>
    intro pre rest i n m hp hi h0 h1 hne
    have hm : m = 1 := by have := hne (by omega); simp at h1; omega
    subst hm
    subst hp
    have hg : (pre ++ (wire_vb 0 1 ++ rest)).getD pre.length 0 = 1 := wire_getD_mid pre 1 rest
    rw [wire_vr, if_neg (by simp [wire_vb]), hg, if_neg (by omega), if_pos (by decide)]
    simp [wire_vb]
  | succ k ih =>
    intro pre rest i n m hp hi h0 h1 hne
    by_cases hm : 128 ≤ m
    · have e : wire_vb (k + 1) m = (m % 128 + 128) :: wire_vb k (m / 128) := by rw [wire_vb, if_pos hm]
      rw [e]
      have hg : (pre ++ ((m % 128 + 128) :: wire_vb k (m / 128) ++ rest)).getD i 0 = m % 128 + 128 := by
        rw [← hp]; exact wire_getD_mid pre _ _
      rw [wire_vr, if_neg (by simp; omega), hg, if_neg (by omega), if_neg (by omega)]
      have hp2 : (128 : Int) ^ (k + 1) = 128 * 128 ^ k := by rw [Int.pow_succ]; omega
      have := ih (pre ++ [m % 128 + 128]) rest (i + 1) (n + (m % 128 + 128 - 128) * 128 ^ i) (m / 128) (by simp [hp]) (by omega) (by omega) (by omega) (by omega)
      rw [List.append_assoc] at this
      have e2 : pre ++ ((m % 128 + 128) :: wire_vb k (m / 128) ++ rest) = pre ++ ([m % 128 + 128] ++ (wire_vb k (m / 128) ++ rest)) := by simp
      rw [e2, this]
      have e3 : m * (128 : Int) ^ i = (m % 128) * 128 ^ i + (m / 128) * 128 ^ (i + 1) := by
        rw [Int.pow_succ, ← Int.mul_assoc, Int.mul_right_comm, ← Int.add_mul]
        congr 1
        omega
      rw [e3]
      simp
      omega
    · have e : wire_vb (k + 1) m = [m] := by rw [wire_vb, if_neg hm, show m % 256 = m by omega]
      rw [e]
      have hg : (pre ++ ([m] ++ rest)).getD i 0 = m := by rw [← hp]; exact wire_getD_mid pre _ _
      rw [wire_vr, if_neg (by simp; omega), hg, if_neg (by omega), if_pos (by omega)]
      simp
theorem wire_vr_back (l : List Int) (hb : ∀ x ∈ l, 0 ≤ x ∧ x < 256) (k : Nat) : ∀ (i : Nat) (n v c : Int), i + k = 9 → wire_vr l (k + 1) i n = (v, c, 0) →
    ∃ m, v = n + m * 128 ^ i ∧ 0 ≤ m ∧ m < 2 * 128 ^ k ∧ (0 < i → m ≠ 0) ∧ c = (i : Int) + (wire_vb k m).length ∧ (l.drop i).take (wire_vb k m).length = wire_vb k m ∧ i + (wire_vb k m).length ≤ l.length := by
  induction k with
  | zero =>
    intro i n v c hi h
    obtain rfl : i = 9 := by omega
    rw [wire_vr] at h
    split at h
    · simp at h
    · rename_i hlt
      have hlt : 9 < l.length := by omega
      have hx : l.getD 9 0 = l[9] := by simp [List.getD_eq_getElem?_getD, hlt]
      have hx2 := hb _ (List.getElem_mem hlt)
      rw [hx] at h
      split at h
      · simp at h
      · rename_i hf
        split at h
        · simp at h
          have h1 : l[9] = 1 := by omega
          refine ⟨1, ?_, by decide, by decide, by decide, ?_, ?_, by simp [wire_vb]; omega⟩
          · rw [h1] at h; omega
          · simp [wire_vb]; omega
          · rw [List.drop_eq_getElem_cons hlt, h1]; rfl
        · simp [wire_vr] at h
  | succ k ih =>
    intro i n v c hi h
    rw [wire_vr] at h
    split at h
    · simp at h
    · rename_i hlt
      have hlt : i < l.length := by omega
      have hx : l.getD i 0 = l[i] := by simp [List.getD_eq_getElem?_getD, hlt]
      have hx2 := hb _ (List.getElem_mem hlt)
      rw [hx] at h
      have hp2 : (128 : Int) ^ (k + 1) = 128 * 128 ^ k := by rw [Int.pow_succ]; omega
      have hpk : (1 : Int) ≤ 128 ^ k := by
        have : 1 ≤ 128 ^ k := Nat.le_trans (Nat.one_le_two_pow (n := k)) (Nat.pow_le_pow_left (by decide) k)
        have e : ((128 ^ k : Nat) : Int) = (128 : Int) ^ k := Int.natCast_pow 128 k
        omega
      split at h
      · simp at h
      · rename_i hf
        split at h
        · rename_i hs
          simp at h
          have e : wire_vb (k + 1) l[i] = [l[i]] := by rw [wire_vb, if_neg (by omega), show l[i] % 256 = l[i] by omega]
          refine ⟨l[i], by omega, by omega, by omega, by omega, ?_, ?_, ?_⟩
          · rw [e]; simp; omega
          · rw [e, List.drop_eq_getElem_cons hlt]; rfl
          · rw [e]; simp; omega
        · rename_i hs
          obtain ⟨m, h1, h2, h3, h4, h5, h6, h7⟩ := ih (i + 1) _ v c (by omega) h
          have hm1 : m ≠ 0 := h4 (by omega)
          have e : wire_vb (k + 1) (l[i] - 128 + 128 * m) = l[i] :: wire_vb k m := by
            rw [wire_vb, if_pos (by omega)]
            congr 1
            · omega
            · congr 1; omega
          refine ⟨l[i] - 128 + 128 * m, ?_, by omega, by omega, by omega, ?_, ?_, ?_⟩
          · rw [h1, Int.pow_succ, Int.add_mul]
            have : m * ((128 : Int) ^ i * 128) = 128 * m * 128 ^ i := by
              rw [Int.mul_comm (128 ^ i) 128, ← Int.mul_assoc, Int.mul_comm m 128]
            omega
          · rw [e]; simp; omega
          · rw [e, List.drop_eq_getElem_cons hlt, List.length_cons, List.take_succ_cons, h6]
          · rw [e]; simp; omega
theorem wire_vr_put (a : Int) (rest : List Int) (h : 0 ≤ a ∧ a < 18446744073709551616) : wire_vr (wire_vb 9 a ++ rest) 10 0 0 = (a, ((wire_vb 9 a).length : Int), 0) := by
  have := wire_vr_vb 9 [] rest 0 0 a rfl rfl h.1 (by have : (2 : Int) * 128 ^ 9 = 18446744073709551616 := by decide
                                                     omega) (by omega)
  simpa using this
theorem wire_vb_unlike (a b : Int) (ha : 0 ≤ a ∧ a < 18446744073709551616) (hb : 0 ≤ b ∧ b < 18446744073709551616) (he : wire_vb 9 a = (wire_vb 9 b).take (wire_vb 9 a).length) : a = b := by
  have h1 := wire_vr_put a ((wire_vb 9 b).drop (wire_vb 9 a).length) ha
  have h2 := wire_vr_put b [] hb
  have e : wire_vb 9 a ++ (wire_vb 9 b).drop (wire_vb 9 a).length = wire_vb 9 b ++ [] := by
    conv => lhs; lhs; rw [he]
    rw [List.take_append_drop, List.append_nil]
  rw [e, h2] at h1
  exact (congrArg Prod.fst h1).symm

theorem wire_oru32 (x y : Int) (hx : 0 ≤ x ∧ x < 16777216) (hy : 0 ≤ y ∧ y < 256) : Go.bits .or .u32 ((x * 256) % 4294967296) (y % 4294967296) = x * 256 + y := by
  rw [show x * 256 % 4294967296 = x * 256 by omega, show y % 4294967296 = y by omega]
  exact bits_join .u32 32 (by decide) (fun n h0 h1 => by rw [IntKind.wrap_u32]; omega) 8 (x * 256) y (by omega) (by omega) (by omega) hy.1 (by omega) (by omega)
theorem wire_fixed4 (n : Int) (h : 0 ≤ n ∧ n < 4294967296) (l : List Int) (a b : Int) : wire_Reader_Fixed.l0 5 0 [n / 16777216, n / 65536 % 256, n / 256 % 256, n % 256] 4 0 l a b = some (n, a, b) := by
  have r0 : rd [n / 16777216, n / 65536 % 256, n / 256 % 256, n % 256] 0 = n / 16777216 := rfl
  have r1 : rd [n / 16777216, n / 65536 % 256, n / 256 % 256, n % 256] 1 = n / 65536 % 256 := rfl
  have r2 : rd [n / 16777216, n / 65536 % 256, n / 256 % 256, n % 256] 2 = n / 256 % 256 := rfl
  have r3 : rd [n / 16777216, n / 65536 % 256, n / 256 % 256, n % 256] 3 = n % 256 := rfl
  have w0 : wrap64 (0 + 1) = 1 := by decide +kernel
  have w1 : wrap64 (1 + 1) = 2 := by decide +kernel
  have w2 : wrap64 (2 + 1) = 3 := by decide +kernel
  have w3 : wrap64 (3 + 1) = 4 := by decide +kernel
  simp only [wire_Reader_Fixed.l0, r0, r1, r2, r3, w0, w1, w2, w3, List.length_cons, List.length_nil]
  rw [wire_oru32 0 _ (by omega) (by omega)]
  rw [wire_oru32 _ (n / 65536 % 256) (by omega) (by omega)]
  rw [wire_oru32 _ (n / 256 % 256) (by omega) (by omega)]
  rw [wire_oru32 _ (n % 256) (by omega) (by omega)]
  simp
  omega
end Go.Proofs.Ytfdbibddhneklac.PWireBack
