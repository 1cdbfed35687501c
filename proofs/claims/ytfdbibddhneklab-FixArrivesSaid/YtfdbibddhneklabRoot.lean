/- The root of a number: the greatest one whose square is not greater; there is just one. And what a step toward a point leaves. No condition. -/
import Derived.WalkKit
namespace Go.Proofs.Ytfdbibddhneklab.RootP
/-- the greatest number whose square is not greater -/
def IsRoot (n r : Int) : Prop := 0 ≤ r ∧ r * r ≤ n ∧ n < (r + 1) * (r + 1)
theorem lt_of_sq {a b : Int} (hb : 0 ≤ b) (h : a * a < (b + 1) * (b + 1)) : a ≤ b := by
  by_cases g : a ≤ b
  · exact g
  exfalso
  have h1 : b + 1 ≤ a := by omega
  have := Int.mul_le_mul h1 h1 (by omega) (by omega)
  omega
theorem IsRoot.uniq {n r s : Int} (h : IsRoot n r) (k : IsRoot n s) : r = s := by
  have h1 := lt_of_sq k.1 (Int.lt_of_le_of_lt h.2.1 k.2.2)
  have h2 := lt_of_sq h.1 (Int.lt_of_le_of_lt k.2.1 h.2.2)
  omega
theorem exists_root (n : Nat) : ∃ r : Int, IsRoot n r := by
  induction n with
  | zero => exact ⟨0, by decide, by decide, by decide⟩
  | succ n ih =>
    obtain ⟨r, h0, h1, h2⟩ := ih
    by_cases g : ((n + 1 : Nat) : Int) < (r + 1) * (r + 1)
    · exact ⟨r, h0, by omega, g⟩
    · refine ⟨r + 1, by omega, by omega, ?_⟩
      have : (r + 1 + 1) * (r + 1 + 1) = (r + 1) * (r + 1) + 2 * r + 3 := by grind
      omega
/-- one bit of Go's Root -/
theorem step {n out b : Int} (h1 : out * out ≤ n) (h2 : n < (out + 2 * b) * (out + 2 * b)) :
    ((out + b) * (out + b) ≤ n → (out + b) * (out + b) ≤ n ∧ n < (out + b + b) * (out + b + b)) ∧ (¬ (out + b) * (out + b) ≤ n → out * out ≤ n ∧ n < (out + b) * (out + b)) := by
  refine ⟨fun h => ⟨h, ?_⟩, fun h => ⟨h1, by omega⟩⟩
  have : out + b + b = out + 2 * b := by omega
  rw [this]; exact h2
end Go.Proofs.Ytfdbibddhneklab.RootP
namespace Go.Proofs.Ytfdbibddhneklab.FixP
theorem sq_sum (a b : Int) : (a + b) * (a + b) ≤ 2 * (a * a + b * b) := by
  have h : 0 ≤ (a - b) * (a - b) := by
    rcases Int.le_total 0 (a - b) with h | h
    · exact Int.mul_nonneg h h
    · exact Int.mul_nonneg_of_nonpos_of_nonpos h h
  grind

theorem poly (r S P T : Int) (hr : 0 ≤ r) (hS : S ≤ (r + 257) * (r + 257)) (hT : 2 * T ≤ 3 * (r + 257)) (hP : (r + 3) * (r + 3) ≤ P)
    (h : (r + 256) * (r + 256) * P ≤ r * r * S + 2 * (r * (r + 255)) * T + 2 * ((r + 255) * (r + 255))) : False := by
  have q4 := Int.mul_le_mul_of_nonneg_left hP (Int.mul_nonneg (show 0 ≤ r + 256 by omega) (show 0 ≤ r + 256 by omega))
  have q5 := Int.mul_le_mul_of_nonneg_left hS (Int.mul_nonneg hr hr)
  have q6 := Int.mul_le_mul_of_nonneg_left hT (Int.mul_nonneg hr (show 0 ≤ r + 255 by omega))
  have a2 := Int.mul_nonneg hr hr
  have a3 := Int.mul_nonneg a2 hr
  grind

theorem key (r x q m : Int) (h1 : (r + 256) * q + m = 256 * x) (h2 : m < r + 256) : (r + 256) * (x - q) ≤ r * x + (r + 255) := by
  grind

theorem sq_mono {x y : Int} (hx : 0 ≤ x) (h : x ≤ y) : x * x ≤ y * y := Int.mul_le_mul h h hx (by omega)

/-- one step toward: how much is left shrinks by 254 at least -/
theorem shrink (a b qa qb ma mb F F' : Int) (hF : 256 < F) (h2 : a * a + b * b < (F + 1) * (F + 1))
    (ha : F * qa + ma = 256 * a) (ha1 : ma < F) (ha2 : qa ≤ a) (hb : F * qb + mb = 256 * b) (hb1 : mb < F) (hb2 : qb ≤ b)
    (h3 : F' * F' ≤ (a - qa) * (a - qa) + (b - qb) * (b - qb)) : F' + 254 ≤ F := by
  obtain ⟨r, rfl⟩ : ∃ r, F = r + 256 := ⟨F - 256, by omega⟩
  have ka := key r a qa ma ha (by omega)
  have kb := key r b qb mb hb (by omega)
  by_cases hc : F' + 254 ≤ r + 256
  · exact hc
  exfalso
  have hG : r + 3 ≤ F' := by omega
  have hsum : 2 * (a + b) ≤ 3 * (r + 257) := by
    by_cases hn : 2 * (a + b) ≤ 3 * (r + 257)
    · exact hn
    exfalso
    have h5 := sq_mono (x := 3 * (r + 257)) (y := 2 * (a + b)) (by omega) (by omega)
    have h6 := sq_sum a b
    have h7 : 0 ≤ (r + 257) * (r + 257) := Int.mul_nonneg (by omega) (by omega)
    have h8 : (r + 256 + 1) * (r + 256 + 1) = (r + 257) * (r + 257) := by rw [show r + 256 + 1 = r + 257 by omega]
    have h9 : 2 * (a + b) * (2 * (a + b)) = 4 * ((a + b) * (a + b)) := by grind
    have h10 : 3 * (r + 257) * (3 * (r + 257)) = 9 * ((r + 257) * (r + 257)) := by grind
    omega
  have q1 := sq_mono (Int.mul_nonneg (show 0 ≤ r + 256 by omega) (show 0 ≤ a - qa by omega)) ka
  have q2 := sq_mono (Int.mul_nonneg (show 0 ≤ r + 256 by omega) (show 0 ≤ b - qb by omega)) kb
  have q3 := sq_mono (show 0 ≤ r + 3 by omega) hG
  refine poly r (a * a + b * b) ((a - qa) * (a - qa) + (b - qb) * (b - qb)) (a + b) (by omega) ?_ hsum (by omega) ?_
  · have : (r + 256 + 1) * (r + 256 + 1) = (r + 257) * (r + 257) := by rw [show r + 256 + 1 = r + 257 by omega]
    omega
  · clear h2 h3 hG hsum q3 ha hb ka kb
    grind
end Go.Proofs.Ytfdbibddhneklab.FixP
namespace Go.Proofs.Ytfdbibddhneklab
open RootP
/-- the root -/
noncomputable def rt (n : Int) : Int := Classical.choose (exists_root n.toNat)
theorem rt_is (n : Int) (h : 0 ≤ n) : IsRoot n (rt n) := by
  have h2 : IsRoot ((n.toNat : Nat) : Int) (rt n) := Classical.choose_spec (exists_root n.toNat)
  rw [Int.toNat_of_nonneg h] at h2
  exact h2
theorem rt_eq {n r : Int} (h : IsRoot n r) : rt n = r := by
  have hn : 0 ≤ n := Int.le_trans (Int.mul_nonneg h.1 h.1) h.2.1
  exact (rt_is n hn).uniq h
end Go.Proofs.Ytfdbibddhneklab
