/- Path: the map, the program's and the document's. No program in sight. -/
import Derived.Test.YtkbimhngbdbgdaaPPathFindsx1
import Derived.Test.YtkbimhngbdbgdaaPPathFindsx2
import Derived.Test.YtkbimhngbdbgdaaPPathFindsx4
namespace Go.Proofs.Ytkbimhngbdbgdaa.Pure
open Go.RowKit Go.Proofs.Ytkbimhngbdbgdaa.PPathFinds Go.Proofs.YtkbimhngbdbgdaaW.PrintWords Go.Proofs.YtkbimhngbdbgdaaW.PrintLast Go.Proofs.YtkbimhngbdbgdaaW.PrintMore
theorem w64 {x : Int} (h : -9223372036854775808 ≤ x ∧ x ≤ 9223372036854775807) : wrap64 x = x := by unfold wrap64; omega
/-- a map's sides and tiles -/
def Okd (a b : Int) (s : ByteArray) : Prop := 1 ≤ a ∧ a ≤ 64 ∧ 1 ≤ b ∧ b ≤ 64 ∧ (s.size : Int) = a * b
theorem Okd.le {a b : Int} {s : ByteArray} (h : Okd a b s) : (s.size : Int) ≤ 4096 := by
  have := Int.mul_le_mul h.2.1 h.2.2.2.1 (by have := h.2.2.1; omega) (by omega)
  have := h.2.2.2.2
  omega
theorem Okd.w {a b : Int} {s : ByteArray} (h : Okd a b s) : wrap64 (a * b) = (s.size : Int) := by
  have := h.le; have := h.2.2.2.2
  rw [w64 (by omega)]; omega
def onB (s : ByteArray) (t : Int) : Bool := decide (0 ≤ t ∧ t < (s.size : Int))
theorem on_g (a b : Int) (s : ByteArray) (t : Int) : grid_Map_On.f a b s t = some (onB s t) := by
  unfold grid_Map_On.f onB
  by_cases h : t ≥ 0
  · rw [if_pos h]; simp; omega
  · rw [if_neg h]; simp; omega
theorem on_r {a b : Int} {s : ByteArray} (h : Okd a b s) (t : Int) : rematchref07_Map_On.f a b s t = some (onB s t) := by
  unfold rematchref07_Map_On.f onB
  rw [h.w]
  by_cases h : t ≥ 0
  · rw [if_pos h]; simp; omega
  · rw [if_neg h]; simp; omega
theorem onB_true {s : ByteArray} {t : Int} (h : onB s t = true) : 0 ≤ t ∧ t < (s.size : Int) := by simpa [onB] using h
/-- column and row -/
theorem xy_in {a b : Int} {s : ByteArray} (h : Okd a b s) {t : Int} (ht : onB s t = true) : (0 ≤ t % a ∧ t % a < a) ∧ (0 ≤ t / a ∧ t / a < b) ∧ t.tmod a = t % a ∧ t.tdiv a = t / a ∧ wrap64 (t / a) = t / a := by
  obtain ⟨h1, h2, h3, h4, h5⟩ := h
  obtain ⟨t1, t2⟩ := onB_true ht
  have d1 : 0 ≤ t / a := Int.ediv_nonneg t1 (by omega)
  have d2 : t / a < b := Int.ediv_lt_of_lt_mul (by omega) (by rw [Int.mul_comm]; omega)
  exact ⟨⟨Int.emod_nonneg _ (by omega), Int.emod_lt_of_pos _ (by omega)⟩, ⟨d1, d2⟩, Int.tmod_eq_emod_of_nonneg t1, Int.tdiv_eq_ediv_of_nonneg t1, w64 (by omega)⟩
theorem xy_g {a b : Int} {s : ByteArray} (h : Okd a b s) (t : Int) : grid_Map_XY.f a b s t = if onB s t = true then some (t % a, t / a) else some (-1, -1) := by
  unfold grid_Map_XY.f
  rw [on_g, Option.bind_some]
  by_cases ht : onB s t = true
  · obtain ⟨-, -, e1, e2, e3⟩ := xy_in h ht
    rw [if_pos ht, if_pos ht, if_neg (by have := h.1; omega), e1, e2, e3]
  · rw [if_neg ht, if_neg ht]
/-- how far two tiles are -/
def dst (a t u : Int) : Int := mx (t % a - u % a) (u % a - t % a) + mx (t / a - u / a) (u / a - t / a)
def farI (a : Int) (s : ByteArray) (t u : Int) : Int := if onB s t = true ∧ onB s u = true then dst a t u else -1
theorem mx_abs {p q : Int} (hp : -100 ≤ p ∧ p ≤ 100) (hq : -100 ≤ q ∧ q ≤ 100) : 0 ≤ mx (p - q) (q - p) ∧ mx (p - q) (q - p) ≤ 200 ∧ wrap64 (p - q) = p - q ∧ wrap64 (q - p) = q - p := by
  refine ⟨?_, ?_, w64 (by omega), w64 (by omega)⟩ <;> (unfold mx; split <;> omega)
theorem far_g {a b : Int} {s : ByteArray} (h : Okd a b s) (t u : Int) (k : Nat) (hk : 0 < k) : grid_Map_Far.f k a b s t u = some (farI a s t u) := by
  obtain ⟨k, rfl⟩ : ∃ m, k = m + 1 := ⟨k - 1, by omega⟩
  unfold grid_Map_Far.f farI
  rw [on_g, Option.bind_some]
  by_cases ht : onB s t = true
  · rw [if_pos ht, on_g, Option.bind_some]
    simp only [grid_Map_Far.j0]
    by_cases hu : onB s u = true
    · rw [if_neg (by simp [hu]), if_pos ⟨ht, hu⟩, xy_g h, xy_g h, if_pos ht, if_pos hu, Option.bind_some, Option.bind_some]
      obtain ⟨p1, p2, -⟩ := xy_in h ht
      obtain ⟨q1, q2, -⟩ := xy_in h hu
      have hb := h.2.2.2.1; have ha := h.2.1
      obtain ⟨x1, x2, x3, x4⟩ := mx_abs (p := t % a) (q := u % a) (by omega) (by omega)
      obtain ⟨y1, y2, y3, y4⟩ := mx_abs (p := t / a) (q := u / a) (by omega) (by omega)
      rw [x3, x4, y3, y4, w64 (by omega)]
      rfl
    · rw [if_pos (by simp [hu]), if_neg (fun hh => hu hh.2)]
  · rw [if_neg ht, if_neg (fun hh => ht hh.1)]
    simp only [grid_Map_Far.j0]
    rfl
theorem apart_r {p q : Int} (hp : -100 ≤ p ∧ p ≤ 100) (hq : -100 ≤ q ∧ q ≤ 100) : rematchref07_apart.f p q = some (mx (p - q) (q - p)) := by
  unfold rematchref07_apart.f mx
  by_cases h : p > q
  · rw [if_pos h, w64 (by omega), if_neg (by omega)]
  · rw [if_neg h, w64 (by omega)]
    split
    · rfl
    · congr 1; omega
theorem far_r {a b : Int} {s : ByteArray} (h : Okd a b s) (t u : Int) (k : Nat) (hk : 0 < k) : rematchref07_Map_Far.f k a b s t u = some (farI a s t u) := by
  obtain ⟨k, rfl⟩ : ∃ m, k = m + 1 := ⟨k - 1, by omega⟩
  unfold rematchref07_Map_Far.f farI
  rw [on_r h, Option.bind_some]
  by_cases ht : onB s t = true
  · rw [if_pos ht, on_r h, Option.bind_some]
    simp only [rematchref07_Map_Far.j0]
    by_cases hu : onB s u = true
    · rw [if_neg (by simp [hu]), if_neg (by have := h.1; omega), if_pos (show onB s t = true ∧ onB s u = true from ⟨ht, hu⟩)]
      obtain ⟨p1, p2, e1, e2, e3⟩ := xy_in h ht
      obtain ⟨q1, q2, f1, f2, f3⟩ := xy_in h hu
      have hb := h.2.2.2.1; have ha := h.2.1
      rw [e1, e2, e3, f1, f2, f3, apart_r (by omega) (by omega), Option.bind_some, apart_r (by omega) (by omega), Option.bind_some]
      obtain ⟨x1, x2, x3, x4⟩ := mx_abs (p := t % a) (q := u % a) (by omega) (by omega)
      obtain ⟨y1, y2, y3, y4⟩ := mx_abs (p := t / a) (q := u / a) (by omega) (by omega)
      rw [w64 (by omega)]
      rfl
    · rw [if_pos (by simp [hu]), if_neg (fun hh => hu hh.2)]
  · rw [if_neg ht, if_neg (fun hh => ht hh.1)]
    simp only [rematchref07_Map_Far.j0]
    rfl
theorem is_eq {a b : Int} {s : ByteArray} (h : Okd a b s) (t : Int) : ∃ c, grid_Map_Is.f a b s t = some c ∧ rematchref07_Map_Is.f a b s t = some c := by
  unfold grid_Map_Is.f rematchref07_Map_Is.f
  rw [on_g, on_r h]
  simp only [Option.bind_some]
  by_cases ht : onB s t = true
  · obtain ⟨t1, t2⟩ := onB_true ht
    rw [if_pos ht, if_pos t1, if_pos t2]
    exact ⟨_, rfl, rfl⟩
  · rw [if_neg ht]
    exact ⟨_, rfl, rfl⟩
theorem div_mod_at {a : Int} (ha : 0 < a) (x y u : Int) (hx : 0 ≤ x ∧ x < a) (hu : u = a * y + x) : u % a = x ∧ u / a = y := by
  subst hu
  rw [Int.add_comm]
  exact ⟨by rw [Int.add_mul_emod_self_left]; exact Int.emod_eq_of_lt hx.1 hx.2, by rw [Int.add_mul_ediv_left _ _ (by omega), Int.ediv_eq_zero_of_lt hx.1 hx.2]; omega⟩
theorem mul_bounds {a b y : Int} (ha : 0 < a) (h : 0 ≤ y ∧ y < b) : 0 ≤ a * y ∧ a * y + a ≤ a * b := by
  refine ⟨Int.mul_nonneg (by omega) h.1, ?_⟩
  have := Int.mul_le_mul_of_nonneg_left (show y + 1 ≤ b by omega) (show 0 ≤ a by omega)
  rw [Int.mul_add, Int.mul_one] at this
  exact this
theorem far_up {a b : Int} {s : ByteArray} (h : Okd a b s) (h2 : 2 ≤ a) {t : Int} (ht : onB s t = true) : (farI a s t (t - a) = 1) = (1 ≤ t / a) := by
  obtain ⟨p1, p2, -⟩ := xy_in h ht
  have e := Int.mul_ediv_add_emod t a
  have hs := h.2.2.2.2
  have t1 := onB_true ht
  have m := mul_bounds (a := a) (b := b) (by omega) p2
  unfold farI
  by_cases c : 1 ≤ t / a
  · have m2 : a * (t / a - 1) = a * (t / a) - a := by rw [Int.mul_sub, Int.mul_one]
    have m3 : 0 ≤ a * (t / a - 1) := Int.mul_nonneg (by omega) (by omega)
    have hu : onB s (t - a) = true := by simp [onB]; omega
    obtain ⟨f1, f2⟩ := div_mod_at (a := a) (by omega) (t % a) (t / a - 1) (t - a) p1 (by omega)
    rw [if_pos ⟨ht, hu⟩]
    unfold dst
    rw [f1, f2]
    simp only [eq_iff_iff]
    refine ⟨fun _ => c, fun _ => ?_⟩
    unfold mx; split <;> split <;> omega
  · have m2 : t / a = 0 := by omega
    rw [m2, Int.mul_zero] at e
    rw [if_neg (fun hh => by have := onB_true hh.2; omega)]
    simp only [eq_iff_iff]
    exact ⟨fun hh => by omega, fun hh => absurd hh c⟩
theorem far_right {a b : Int} {s : ByteArray} (h : Okd a b s) (h2 : 2 ≤ a) {t : Int} (ht : onB s t = true) : (farI a s t (t + 1) = 1) = (t % a + 1 < a) := by
  obtain ⟨p1, p2, -⟩ := xy_in h ht
  have e := Int.mul_ediv_add_emod t a
  have hs := h.2.2.2.2
  have t1 := onB_true ht
  have m := mul_bounds (a := a) (b := b) (by omega) p2
  unfold farI
  by_cases c : t % a + 1 < a
  · have hu : onB s (t + 1) = true := by simp [onB]; omega
    obtain ⟨f1, f2⟩ := div_mod_at (a := a) (by omega) (t % a + 1) (t / a) (t + 1) (by omega) (by omega)
    rw [if_pos ⟨ht, hu⟩]
    unfold dst
    rw [f1, f2]
    simp only [eq_iff_iff]
    refine ⟨fun _ => c, fun _ => ?_⟩
    unfold mx; split <;> split <;> omega
  · simp only [eq_iff_iff]
    refine ⟨fun hh => ?_, fun hh => absurd hh c⟩
    exfalso
    by_cases hu : onB s (t + 1) = true
    · have m2 : a * (t / a + 1) = a * (t / a) + a := by rw [Int.mul_add, Int.mul_one]
      obtain ⟨f1, f2⟩ := div_mod_at (a := a) (by omega) 0 (t / a + 1) (t + 1) (by omega) (by omega)
      rw [if_pos ⟨ht, hu⟩] at hh
      unfold dst at hh
      rw [f1, f2] at hh
      unfold mx at hh
      split at hh <;> split at hh <;> omega
    · rw [if_neg (fun hh => hu hh.2)] at hh
      omega
theorem far_down {a b : Int} {s : ByteArray} (h : Okd a b s) (h2 : 2 ≤ a) {t : Int} (ht : onB s t = true) : (farI a s t (t + a) = 1) = (t / a + 1 < b) := by
  obtain ⟨p1, p2, -⟩ := xy_in h ht
  have e := Int.mul_ediv_add_emod t a
  have hs := h.2.2.2.2
  have t1 := onB_true ht
  have m := mul_bounds (a := a) (b := b) (by omega) p2
  have m2 : a * (t / a + 1) = a * (t / a) + a := by rw [Int.mul_add, Int.mul_one]
  unfold farI
  by_cases c : t / a + 1 < b
  · have m3 := mul_bounds (a := a) (b := b) (y := t / a + 1) (by omega) (by omega)
    have hu : onB s (t + a) = true := by simp [onB]; omega
    obtain ⟨f1, f2⟩ := div_mod_at (a := a) (by omega) (t % a) (t / a + 1) (t + a) p1 (by omega)
    rw [if_pos ⟨ht, hu⟩]
    unfold dst
    rw [f1, f2]
    simp only [eq_iff_iff]
    refine ⟨fun _ => c, fun _ => ?_⟩
    unfold mx; split <;> split <;> omega
  · have m3 : t / a + 1 = b := by omega
    rw [m3] at m2
    rw [if_neg (fun hh => by have := onB_true hh.2; omega)]
    simp only [eq_iff_iff]
    exact ⟨fun hh => by omega, fun hh => absurd hh c⟩
theorem far_left {a b : Int} {s : ByteArray} (h : Okd a b s) (h2 : 2 ≤ a) {t : Int} (ht : onB s t = true) : (farI a s t (t - 1) = 1) = (1 ≤ t % a) := by
  obtain ⟨p1, p2, -⟩ := xy_in h ht
  have e := Int.mul_ediv_add_emod t a
  have hs := h.2.2.2.2
  have t1 := onB_true ht
  have m := mul_bounds (a := a) (b := b) (by omega) p2
  unfold farI
  by_cases c : 1 ≤ t % a
  · have hu : onB s (t - 1) = true := by simp [onB]; omega
    obtain ⟨f1, f2⟩ := div_mod_at (a := a) (by omega) (t % a - 1) (t / a) (t - 1) (by omega) (by omega)
    rw [if_pos ⟨ht, hu⟩]
    unfold dst
    rw [f1, f2]
    simp only [eq_iff_iff]
    refine ⟨fun _ => c, fun _ => ?_⟩
    unfold mx; split <;> split <;> omega
  · simp only [eq_iff_iff]
    refine ⟨fun hh => ?_, fun hh => absurd hh c⟩
    exfalso
    by_cases hu : onB s (t - 1) = true
    · have m2 : a * (t / a - 1) = a * (t / a) - a := by rw [Int.mul_sub, Int.mul_one]
      obtain ⟨f1, f2⟩ := div_mod_at (a := a) (by omega) (a - 1) (t / a - 1) (t - 1) (by omega) (by omega)
      rw [if_pos ⟨ht, hu⟩] at hh
      unfold dst at hh
      rw [f1, f2] at hh
      unfold mx at hh
      split at hh <;> split at hh <;> omega
    · rw [if_neg (fun hh => hu hh.2)] at hh
      omega
/-- the reference's neighbours -/
theorem next_step {a b : Int} {s : ByteArray} (h : Okd a b s) (t : Int) (l : List Int) (hl : l.length = 4) (i : Nat) (hi : i < 4) (acc : List Int) (hacc : acc.length ≤ 4) (k : Nat) : rematchref07_Map_Next.l0 (k + 2) t acc l i a b s = rematchref07_Map_Next.l0 (k + 1) t (if farI a s t (rd l i) = 1 then acc ++ [rd l i] else acc) l ((i + 1 : Nat) : Int) a b s := by
  rw [rematchref07_Map_Next.l0]
  rw [if_pos (by omega), if_pos (by omega), if_pos (by omega), far_r h _ _ _ (by omega), Option.bind_some, w64 (by omega)]
  by_cases c : farI a s t (rd l i) = 1
  · rw [if_pos c, if_pos c, if_pos (by omega)]; rfl
  · rw [if_neg c, if_neg c]; rfl
theorem next_r {a b : Int} {s : ByteArray} (h : Okd a b s) (h2 : 2 ≤ a) {t : Int} (ht : onB s t = true) (k : Nat) (hk : 5 < k) : rematchref07_Map_Next.f k a b s t = some (grid_nextA a b t 4) := by
  obtain ⟨k, rfl⟩ : ∃ m, k = m + 6 := ⟨k - 6, by omega⟩
  have t1 := onB_true ht
  have hle := h.le
  have ha := h.2.1
  unfold rematchref07_Map_Next.f
  rw [w64 (x := t - a) (by omega), w64 (x := t + 1) (by omega), w64 (x := t + a) (by omega), w64 (x := t - 1) (by omega)]
  rw [show (0 : Int) = ((0 : Nat) : Int) from rfl]
  rw [next_step h t _ rfl 0 (by omega) _ (by simp) (k + 4)]
  rw [next_step h t _ rfl 1 (by omega) _ (by split <;> simp) (k + 3)]
  rw [next_step h t _ rfl 2 (by omega) _ (by split <;> split <;> simp) (k + 2)]
  rw [next_step h t _ rfl 3 (by omega) _ (by split <;> split <;> split <;> simp) (k + 1)]
  rw [rematchref07_Map_Next.l0, if_neg (by omega)]
  have e0 : rd [t - a, t + 1, t + a, t - 1] ((0 : Nat) : Int) = t - a := rfl
  have e1 : rd [t - a, t + 1, t + a, t - 1] ((0 + 1 : Nat) : Int) = t + 1 := rfl
  have e2 : rd [t - a, t + 1, t + a, t - 1] ((1 + 1 : Nat) : Int) = t + a := rfl
  have e3 : rd [t - a, t + 1, t + a, t - 1] ((2 + 1 : Nat) : Int) = t - 1 := rfl
  have e1' : rd [t - a, t + 1, t + a, t - 1] ((1 : Nat) : Int) = t + 1 := rfl
  have e2' : rd [t - a, t + 1, t + a, t - 1] ((2 : Nat) : Int) = t + a := rfl
  have e3' : rd [t - a, t + 1, t + a, t - 1] ((3 : Nat) : Int) = t - 1 := rfl
  simp only [e0, e1', e2', e3', far_up h h2 ht, far_right h h2 ht, far_down h h2 ht, far_left h h2 ht]
  unfold grid_nextA
  congr 1
  by_cases c0 : 1 ≤ t / a <;> by_cases c1 : t % a + 1 < a <;> by_cases c2 : t / a + 1 < b <;> by_cases c3 : 1 ≤ t % a <;> simp [c0, c1, c2, c3]
/-- the reference's tiles that are not farther -/
theorem dst_le {a b : Int} {s : ByteArray} (h : Okd a b s) {t u : Int} (ht : onB s t = true) (hu : onB s u = true) : 0 ≤ dst a t u ∧ dst a t u ≤ 128 := by
  obtain ⟨p1, p2, -⟩ := xy_in h ht
  obtain ⟨q1, q2, -⟩ := xy_in h hu
  have := h.2.1; have := h.2.2.2.1
  unfold dst mx
  split <;> split <;> omega
end Go.Proofs.Ytkbimhngbdbgdaa.Pure
