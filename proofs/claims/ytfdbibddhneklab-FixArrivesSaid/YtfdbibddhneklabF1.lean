/- The walks of fix: Root. No condition. -/
import Derived.Test.YtfdbibddhneklabProg
import Derived.Test.YtfdbibddhneklabKit
import Derived.Test.YtfdbibddhneklabRoot
namespace Go.Proofs.Ytfdbibddhneklab
open Go.RowKit RootP
set_option maxHeartbeats 400000 in
theorem root_any (n : Int) (hn : 0 ≤ n ∧ n ≤ 18446744073709551615) (w : World) : Calls Try.prog 24 #[.int .u64 n] w fun e w' => e = .returned (.int .u64 (rt n)) ∧ w = w' := by
  go_enter Try.func24, Try.ntmps24
  go_wp2
  go_loop [3, 4, 5] (fun o b _ => ∃ (j : Nat) (out : Int), j ≤ 32 ∧ b = .int .u64 ((2 ^ j / 2 : Nat) : Int) ∧ o = .int .u64 out ∧ 0 ≤ out ∧ out % ((2 ^ j : Nat) : Int) = 0 ∧ out + ((2 ^ j : Nat) : Int) ≤ 4294967296 ∧ out * out ≤ n ∧ n < (out + ((2 ^ j : Nat) : Int)) * (out + ((2 ^ j : Nat) : Int)))
    (fun _ b _ => (intOf b).toNat)
  case atStart => exact ⟨32, 0, by omega, rfl, rfl, by omega, by omega, by decide, by omega, by simpa using by omega⟩
  case round =>
    obtain ⟨j, out, hj, rfl, rfl, h0, h1, h2, h3, h4⟩ := hrel
    rcases j with _ | j
    · rw [show ((2 ^ 0 / 2 : Nat) : Int) = 0 from rfl]
      have hr : rt n = out := rt_eq ⟨h0, h3, by simpa using h4⟩
      have hr2 := Lib.hid hr
      clear hr h1 h2 h3 h4
      go_wp2
      go_ret
      exact ⟨by rw [hr2.out]; rfl, rfl⟩
    · rw [show (2 ^ (j + 1) / 2 : Nat) = 2 ^ j by rw [Nat.pow_succ]; omega]
      have e2 : ((2 ^ (j + 1) : Nat) : Int) = 2 * ((2 ^ j : Nat) : Int) := by rw [Nat.pow_succ]; omega
      rw [e2] at h1 h2 h4
      have hp : 1 ≤ ((2 ^ j : Nat) : Int) := by have := Nat.two_pow_pos j; omega
      have hor : bits .or .u64 out ((2 ^ j : Nat) : Int) = out + ((2 ^ j : Nat) : Int) := by
        refine bits_join .u64 33 (by decide) (fun n a b => IntWalk.u64_in n ⟨a, by omega⟩) (j + 1) out _ h0 ?_ (by omega) (by omega) ?_ (by omega)
        · have : (2 : Int) ^ (j + 1) = ((2 ^ (j + 1) : Nat) : Int) := by simp
          rw [this, e2]; exact h1
        · have : (2 : Int) ^ (j + 1) = ((2 ^ (j + 1) : Nat) : Int) := by simp
          rw [this, e2]; omega
      have hdiv : (2 ^ j / 2 : Nat) < 2 ^ j := by have := Nat.two_pow_pos j; omega
      have hhalf : ((2 ^ j : Nat) : Int) / 2 = ((2 ^ j / 2 : Nat) : Int) := by omega
      have hmod : (out + ((2 ^ j : Nat) : Int)) % ((2 ^ j : Nat) : Int) = 0 ∧ out % ((2 ^ j : Nat) : Int) = 0 := by
        have h5 : out % ((2 ^ j : Nat) : Int) = 0 := by
          have := Int.emod_emod_of_dvd out (show ((2 ^ j : Nat) : Int) ∣ 2 * ((2 ^ j : Nat) : Int) from ⟨2, by omega⟩)
          rw [h1] at this
          simpa using this.symm
        exact ⟨by rw [Int.add_emod_right]; exact h5, h5⟩
      have hst := RootP.step h3 h4
      generalize hP : ((2 ^ j : Nat) : Int) = p at *
      have hP2 := Lib.hid hP
      have hsq : 0 ≤ (out + p) * (out + p) ∧ (out + p) * (out + p) ≤ 18446744073709551615 := by
        have := Int.mul_le_mul (show out + p ≤ 4294967295 by omega) (show out + p ≤ 4294967295 by omega) (by omega) (by omega)
        exact ⟨Int.mul_nonneg (by omega) (by omega), by omega⟩
      have hor2 := Lib.hid hor
      have hh2 := Lib.hid hhalf
      have hm2 := Lib.hid hmod
      have hst2 := Lib.hid hst
      have hlow : p / 2 < p := by omega
      clear hst
      clear hhalf hmod hP e2 h1
      go_wp2
      · have hle : (out + p) * (out + p) ≤ n := by assumption
        have k1 := hst2.out.1 hle
        refine ⟨⟨j, out + p, by omega, by rw [hh2.out], rfl, by omega, ?_, ?_, k1.1, ?_⟩, by simp only [intOf]; omega⟩
        · rw [hP2.out]; exact hm2.out.1
        · rw [hP2.out]; omega
        · rw [hP2.out]; exact k1.2
      · have hle : n < (out + p) * (out + p) := by assumption
        have k1 := hst2.out.2 (by omega)
        refine ⟨⟨j, out, by omega, by rw [hh2.out], rfl, h0, ?_, ?_, k1.1, ?_⟩, by simp only [intOf]; omega⟩
        · rw [hP2.out]; exact hm2.out.2
        · rw [hP2.out]; omega
        · rw [hP2.out]; exact k1.2
end Go.Proofs.Ytfdbibddhneklab
