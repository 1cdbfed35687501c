/- The walk of the law FixArrives. No condition. -/
import Derived.Test.YtfdbibddhneklabF10
namespace Go.Proofs.Ytfdbibddhneklab
open Go.RowKit RootP Go.Sort
theorem far_tiles (px py qx qy : Int) (h1 : 0 ≤ px ∧ px ≤ 16384) (h2 : 0 ≤ py ∧ py ≤ 16384) (h3 : 0 ≤ qx ∧ qx ≤ 16384) (h4 : 0 ≤ qy ∧ qy ≤ 16384) : farI px py qx qy ≤ 32767 := by
  have m1 : mayB px py = true := mayB_true.2 (by omega)
  have m2 : mayB qx qy = true := mayB_true.2 (by omega)
  rw [far_fold m1 m2]
  unfold dist
  have b : ∀ z : Int, -16384 ≤ z ∧ z ≤ 16384 → 0 ≤ z * z ∧ z * z ≤ 268435456 := by
    intro z hz
    rcases Int.le_total 0 z with h | h
    · have := Int.mul_le_mul hz.2 hz.2 h (by omega)
      exact ⟨Int.mul_nonneg h h, by omega⟩
    · have := Int.mul_le_mul (show -z ≤ 16384 by omega) (show -z ≤ 16384 by omega) (by omega) (by omega)
      rw [Int.neg_mul_neg] at this
      exact ⟨Int.mul_nonneg_of_nonpos_of_nonpos h h, by omega⟩
  have b1 := b (qx - px) (by omega)
  have b2 := b (qy - py) (by omega)
  have hr := rt_is ((qx - px) * (qx - px) + (qy - py) * (qy - py)) (by omega)
  by_cases g : rt ((qx - px) * (qx - px) + (qy - py) * (qy - py)) ≤ 32767
  · exact g
  exfalso
  have h5 : (32768 : Int) ≤ rt ((qx - px) * (qx - px) + (qy - py) * (qy - py)) := by omega
  have := Int.mul_le_mul h5 h5 (by omega) hr.1
  have := hr.2.1
  omega
theorem between_val (a b c d p n x y : Int) (h1 : mayB a b = true) (h2 : mayB c d = true) (h : 1 ≤ n ∧ n ≤ 1048576 ∧ 0 ≤ p ∧ p ≤ n) (hx : partI a c p n = x) (hy : partI b d p n = y) (w : World) : Calls Try.prog 21 #[.agg #[.int .i32 a, .int .i32 b], .agg #[.int .i32 c, .int .i32 d], .int .i64 p, .int .i64 n] w fun e w' => e = .returned (.agg #[.int .i32 x, .int .i32 y]) ∧ Below w.heap.size w w' := by
  subst hx hy
  exact between_in a b c d p n h1 h2 h w
theorem nearer_below (a b c d : Int) (h : (a ≤ b ∧ b ≤ c ∧ c ≤ d) ∨ (b ≤ a ∧ c ≤ b ∧ d ≤ c)) (w : World) : Calls Try.prog 25 #[.int .i32 a, .int .i32 b, .int .i32 c, .int .i32 d] w fun e w' => e = .returned (.bool true) ∧ Below w.heap.size w w' :=
  (nearer_any a b c d h w).mono fun _ _ ⟨he, hw⟩ => ⟨he, hw ▸ Below.refl _ _⟩
set_option maxHeartbeats 4000000 in
set_option maxRecDepth 100000 in
theorem fixArrives_any (a b c d part all : Int) (ha : 0 ≤ a ∧ a ≤ 255) (hb : 0 ≤ b ∧ b ≤ 255) (hc : 0 ≤ c ∧ c ≤ 255) (hd : 0 ≤ d ∧ d ≤ 255) (hp : 0 ≤ part ∧ part ≤ 65535) (hall : 0 ≤ all ∧ all ≤ 65535) (w : World) :
    Calls Try.prog 6 #[.int .u8 a, .int .u8 b, .int .u8 c, .int .u8 d, .int .u16 part, .int .u16 all] w fun e w' => e = .returned (.bool true) ∧ Below w.heap.size w w' := by
  obtain ⟨px, hpx⟩ : ∃ v, v = a % 64 * 256 + 128 := ⟨_, rfl⟩
  obtain ⟨py, hpy⟩ : ∃ v, v = b % 64 * 256 + 128 := ⟨_, rfl⟩
  obtain ⟨qx, hqx⟩ : ∃ v, v = c % 64 * 256 + 128 := ⟨_, rfl⟩
  obtain ⟨qy, hqy⟩ : ∃ v, v = d % 64 * 256 + 128 := ⟨_, rfl⟩
  have km1 := fun W => middle_in (a % 64) (b % 64) (by omega) (by omega) W
  have km2 := fun W => middle_in (c % 64) (d % 64) (by omega) (by omega) W
  rw [← hpx, ← hpy] at km1
  rw [← hqx, ← hqy] at km2
  have b1 : 0 ≤ px ∧ px ≤ 16384 := by omega
  have b2 : 0 ≤ py ∧ py ≤ 16384 := by omega
  have b3 : 0 ≤ qx ∧ qx ≤ 16384 := by omega
  have b4 : 0 ≤ qy ∧ qy ≤ 16384 := by omega
  clear hpx hpy hqx hqy
  have m1 : mayB px py = true := mayB_true.2 (by omega)
  have m2 : mayB qx qy = true := mayB_true.2 (by omega)
  have hF := far_tiles px py qx qy b1 b2 b3 b4
  have hF0 := (farI_bound px py qx qy).1
  have kf := fun W => far_any px py qx qy W
  generalize hF0e : farI px py qx qy = F0 at *
  have hF0f := Lib.hid hF0e
  clear hF0e
  go_enter Try.func6, Try.ntmps6
  go_wp2_with fail
  refine (km1 _).mono ?_; rintro e w1 ⟨rfl, B⟩
  go_wp2_with fail
  refine (km2 _).mono ?_; rintro e w2 ⟨rfl, hbl⟩
  replace B := bstep B hbl
  clear hbl km1 km2
  have hj0 : w.heap.size ≤ w2.heap.size := B.size
  go_wp2_with fail
  refine (kf _).mono ?_; rintro e w3 ⟨rfl, hbl⟩
  have t13 : Two w3 w2.heap.size (.int .i32 px) (.int .i32 py) := (((two_alloc _ _ _ _).allocd _).allocd _).next hbl
  have t14 : Two w3 (w2.heap.size + 1) (.int .i32 qx) (.int .i32 qy) := ((two_alloc' _ _ _ _ _ (by simp)).allocd _).next hbl
  have t15 : Two w3 (w2.heap.size + 1 + 1) (.int .i32 px) (.int .i32 py) := (two_alloc' _ _ _ _ _ (by simp)).next hbl
  replace B : Below w.heap.size w w3 := bstep (((B.alloc B.size _).alloc (by have := B.size; simp; omega) _).alloc (by have := B.size; simp; omega) _) hbl
  clear hbl kf
  generalize w2.heap.size = j at *
  have hq : F0.tdiv 256 = F0 / 256 := Int.tdiv_eq_ediv_of_nonneg hF0
  obtain ⟨st, hst⟩ : ∃ st : Nat, ((st : Nat) : Int) = F0 / 256 + 2 := ⟨(F0 / 256 + 2).toNat, by omega⟩
  have hst2 := Lib.hid hst
  clear hst hq
  go_wp2_with fail
  rw [← hst2.out]
  go_loopw [17, 18, 19] (fun th i _ wr => ∃ (k : Nat) (X Y : Int) (T : Bool), i = .int .i64 k ∧ th = .bool T ∧ k ≤ st ∧ Two wr j (.int .i32 px) (.int .i32 py) ∧ Two wr (j + 1) (.int .i32 qx) (.int .i32 qy) ∧ Two wr (j + 1 + 1) (.int .i32 X) (.int .i32 Y) ∧ Below w.heap.size w wr ∧ (T = false → mayB X Y = true ∧ farI X Y qx qy + 254 * k ≤ F0 ∧ (k = 0 ∨ 254 * (k : Int) + 2 < F0)) ∧ (T = true → X = qx ∧ Y = qy)) (fun _ i _ _ => st - (intOf i).toNat)
  case atStart => exact ⟨0, px, py, false, rfl, rfl, by omega, t13, t14, t15, B, fun _ => ⟨m1, by rw [hF0f.out]; omega, .inl rfl⟩, fun h => by cases h⟩
  case round =>
    obtain ⟨k, X, Y, T, rfl, rfl, hk, t13, t14, t15, B, hfalse, htrue⟩ := hrel
    cases T
    · obtain ⟨hmay, hle, hkk⟩ := hfalse rfl
      clear hfalse htrue
      have hfb := (farI_bound X Y qx qy).1
      by_cases hlt : k < st
      · have hlt2 : (k : Int) < (st : Int) := by omega
        have rt13a := t13.1; have rt13b := t13.2.1; have rt13c := t13.2.2.1; have rt13z := t13.2.2.2
        have rt14a := t14.1; have rt14b := t14.2.1; have rt14c := t14.2.2.1; have rt14z := t14.2.2.2
        have rt15a := t15.1; have rt15b := t15.2.1; have rt15c := t15.2.2.1; have rt15z := t15.2.2.2
        go_wp2_with fail
        clear rt13a rt13b rt13c rt13z rt14a rt14b rt14c rt14z rt15a rt15b rt15c rt15z
        refine (far_any X Y qx qy _).mono ?_; rintro e w4 ⟨rfl, hbl⟩
        replace t13 := t13.next hbl
        replace t14 := t14.next hbl
        replace t15 := t15.next hbl
        replace B : Below w.heap.size w w4 := bstep B hbl
        clear hbl
        by_cases hF : farI X Y qx qy ≤ 256
        · have rt13a := t13.1; have rt13b := t13.2.1; have rt13c := t13.2.2.1; have rt13z := t13.2.2.2
          have rt14a := t14.1; have rt14b := t14.2.1; have rt14c := t14.2.2.1; have rt14z := t14.2.2.2
          have rt15a := t15.1; have rt15b := t15.2.1; have rt15c := t15.2.2.1; have rt15z := t15.2.2.2
          go_wp2_with fail
          clear rt13a rt13b rt13c rt13z rt14a rt14b rt14c rt14z rt15a rt15b rt15c rt15z
          refine (toward_there X Y qx qy 256 hmay m2 (by omega) hF _).mono ?_; rintro e w5 ⟨rfl, hbl⟩
          replace t13 := t13.next hbl
          replace t14 := t14.next hbl
          replace t15 := t15.next hbl
          replace B : Below w.heap.size w w5 := bstep B hbl
          clear hbl
          have rt13a := t13.1; have rt13b := t13.2.1; have rt13c := t13.2.2.1; have rt13z := t13.2.2.2
          have rt14a := t14.1; have rt14b := t14.2.1; have rt14c := t14.2.2.1; have rt14z := t14.2.2.2
          have rt15a := t15.1; have rt15b := t15.2.1; have rt15c := t15.2.2.1; have rt15z := t15.2.2.2
          go_wp2_with fail
          clear rt13a rt13b rt13c rt13z rt14a rt14b rt14c rt14z rt15a rt15b rt15c rt15z
          refine (far_any qx qy qx qy _).mono ?_; rintro e w6 ⟨rfl, hbl⟩
          replace t13 := (t13.other (by omega) _ _).next hbl
          replace t14 := (t14.other (by omega) _ _).next hbl
          replace t15 := (t15.store _ _).next hbl
          replace B : Below w.heap.size w w6 := bstep ((B.setCell (by simp; omega) _).setCell (by simp; omega) _) hbl
          clear hbl
          rw [far_self qx qy m2]
          go_wp2_with fail
          refine ⟨⟨k + 1, qx, qy, true, by go_num, rfl, by omega, t13, t14, t15, B, (fun h => by cases h), fun _ => ⟨rfl, rfl⟩⟩, by simp [intOf]; omega⟩
        · have hF2 : 256 < farI X Y qx qy := by omega
          obtain ⟨s1, s2⟩ := far_step X Y qx qy hmay m2 hF2
          have c1 := fun W => toward_on X Y qx qy 256 hmay m2 (by omega) hF2 W
          have hfb2 := (farI_bound (partI X qx 256 (farI X Y qx qy)) (partI Y qy 256 (farI X Y qx qy)) qx qy).1
          have c2 := fun W => far_any (partI X qx 256 (farI X Y qx qy)) (partI Y qy 256 (farI X Y qx qy)) qx qy W
          generalize partI X qx 256 (farI X Y qx qy) = X2 at *
          generalize partI Y qy 256 (farI X Y qx qy) = Y2 at *
          have rt13a := t13.1; have rt13b := t13.2.1; have rt13c := t13.2.2.1; have rt13z := t13.2.2.2
          have rt14a := t14.1; have rt14b := t14.2.1; have rt14c := t14.2.2.1; have rt14z := t14.2.2.2
          have rt15a := t15.1; have rt15b := t15.2.1; have rt15c := t15.2.2.1; have rt15z := t15.2.2.2
          go_wp2_with fail
          clear rt13a rt13b rt13c rt13z rt14a rt14b rt14c rt14z rt15a rt15b rt15c rt15z
          refine (c1 _).mono ?_; rintro e w5 ⟨rfl, hbl⟩
          replace t13 := t13.next hbl
          replace t14 := t14.next hbl
          replace t15 := t15.next hbl
          replace B : Below w.heap.size w w5 := bstep B hbl
          clear hbl
          have rt13a := t13.1; have rt13b := t13.2.1; have rt13c := t13.2.2.1; have rt13z := t13.2.2.2
          have rt14a := t14.1; have rt14b := t14.2.1; have rt14c := t14.2.2.1; have rt14z := t14.2.2.2
          have rt15a := t15.1; have rt15b := t15.2.1; have rt15c := t15.2.2.1; have rt15z := t15.2.2.2
          go_wp2_with fail
          clear rt13a rt13b rt13c rt13z rt14a rt14b rt14c rt14z rt15a rt15b rt15c rt15z
          refine (c2 _).mono ?_; rintro e w6 ⟨rfl, hbl⟩
          replace t13 := (t13.other (by omega) _ _).next hbl
          replace t14 := (t14.other (by omega) _ _).next hbl
          replace t15 := (t15.store _ _).next hbl
          replace B : Below w.heap.size w w6 := bstep ((B.setCell (by simp; omega) _).setCell (by simp; omega) _) hbl
          clear hbl
          go_wp2_with fail
          refine ⟨⟨k + 1, X2, Y2, false, by go_num, rfl, by omega, t13, t14, t15, B, (fun _ => ⟨s1, by omega, .inr (by omega)⟩), fun h => by cases h⟩, by simp [intOf]; omega⟩
      · exfalso
        have := hst2.out
        omega
    · obtain ⟨rfl, rfl⟩ := htrue rfl
      clear hfalse htrue
      have e1 : 0 ≤ part % (1 + all) ∧ part % (1 + all) < 1 + all := ⟨Int.emod_nonneg _ (by omega), Int.emod_lt_of_pos _ (by omega)⟩
      have e2 : 1 ≤ 1 + all ∧ 1 + all ≤ 65536 := by omega
      by_cases hlt : k < st
      · have hlt2 : (k : Int) < (st : Int) := by omega
        have rt13a := t13.1; have rt13b := t13.2.1; have rt13c := t13.2.2.1; have rt13z := t13.2.2.2
        have rt14a := t14.1; have rt14b := t14.2.1; have rt14c := t14.2.2.1; have rt14z := t14.2.2.2
        have rt15a := t15.1; have rt15b := t15.2.1; have rt15c := t15.2.2.1; have rt15z := t15.2.2.2
        go_wp2_with fail
        clear rt13a rt13b rt13c rt13z rt14a rt14b rt14c rt14z rt15a rt15b rt15c rt15z
        generalize hnn : 1 + all = nn at *
        generalize hkk : part % nn = kk at *
        clear hnn hkk
        have mx := part_mono px X kk nn (by omega) (by omega)
        have my := part_mono py Y kk nn (by omega) (by omega)
        have cu := fun W => between_in px py X Y kk nn m1 m2 (by omega) W
        have cv := fun W => between_in px py X Y (kk + 1) nn m1 m2 (by omega) W
        generalize partI px X kk nn = u0 at *
        generalize partI py Y kk nn = u1 at *
        generalize partI px X (kk + 1) nn = v0 at *
        generalize partI py Y (kk + 1) nn = v1 at *
        have hw1 : IntKind.i64.wrap (kk + 1) = kk + 1 := IntWalk.i64_in _ (by omega)
        refine wp_region_inv (fun a0 w0 b a' w' => ∃ x82 x83 x84 x85 x86 x87 x88 x89 x90 x91 x92 x22 x23 : Value, a' = (((((((((((((a0.put (some 82) x82).put (some 83) x83).put (some 84) x84).put (some 85) x85).put (some 86) x86).put (some 87) x87).put (some 88) x88).put (some 89) x89).put (some 90) x90).put (some 91) x91).put (some 92) x92).put (some 22) x22).put (some 23) x23)
              ∧ Two w' (j) (.int .i32 px) (.int .i32 py)
              ∧ Two w' (j + 1) (.int .i32 X) (.int .i32 Y)
              ∧ Below w.heap.size w w'
              ∧ j + 3 ≤ w'.heap.size
              ∧ (b 0 = true → x82 = .agg #[.int .i32 px, .int .i32 py])
              ∧ (b 1 = true → x83 = .agg #[.int .i32 X, .int .i32 Y])
              ∧ (b 2 = true → x84 = .int .i64 kk)
              ∧ (b 3 = true → x85 = .int .i64 nn)
              ∧ (b 4 = true → x86 = .agg #[.int .i32 u0, .int .i32 u1])
              ∧ (b 5 = true → x87 = .agg #[.int .i32 px, .int .i32 py])
              ∧ (b 6 = true → x88 = .agg #[.int .i32 X, .int .i32 Y])
              ∧ (b 7 = true → x89 = .int .i64 kk)
              ∧ (b 8 = true → x90 = .int .i64 (kk + 1))
              ∧ (b 9 = true → x91 = .int .i64 nn)
              ∧ (b 10 = true → x92 = .agg #[.int .i32 v0, .int .i32 v1])
              ∧ (b 11 = true → ∃ g, x22 = .pointer (some ⟨g, 0, none⟩) ∧ j + 3 ≤ g ∧ ∃ u v, Two w' g u v ∧ (b 13 = true → u = .int .i32 u0 ∧ v = .int .i32 u1))
              ∧ (b 13 = true → b 11 = true)
              ∧ (b 12 = true → ∃ g, x23 = .pointer (some ⟨g, 0, none⟩) ∧ j + 3 ≤ g ∧ ∃ u v, Two w' g u v ∧ (b 14 = true → u = .int .i32 v0 ∧ v = .int .i32 v1))
              ∧ (b 14 = true → b 12 = true)
              ∧ (b 11 = true → b 12 = true → x22 ≠ x23)) (by kernel_rfl) (by kernel_rfl) ?start ⟨?op0, ?op1, ?op2, ?op3, ?op4, ?op5, ?op6, ?op7, ?op8, ?op9, ?op10, ?op11, ?op12, ?op13, ?op14, trivial⟩ ?done
        case start =>
          exact ⟨_, _, _, _, _, _, _, _, _, _, _, _, _, by simp only [Act.put, List.setIfInBounds_toArray, List.set_cons_zero, List.set_cons_succ]; rfl, t13.drewd, t14.drewd, B.drew, (by have := t15.2.2.2; simp; omega), by simp, by simp, by simp, by simp, by simp, by simp, by simp, by simp, by simp, by simp, by simp, by simp, by simp, by simp, by simp, by simp⟩
        case op0 =>
          rintro bb _ w' ⟨x82, x83, x84, x85, x86, x87, x88, x89, x90, x91, x92, x22, x23, rfl, t13, t14, B, hN, p0, p1, p2, p3, p4, p5, p6, p7, p8, p9, p10, p11, q13, p12, q14, d11_12⟩ hb hd K hK
          simp only [Act.put, List.setIfInBounds_toArray, List.set_cons_zero, List.set_cons_succ]
          have c1 := t13.1; have c2 := t13.2.1
          rw [if_pos (by rfl)]
          go_simp
          refine hK _ _ ⟨.agg #[.int .i32 px, .int .i32 py], x83, x84, x85, x86, x87, x88, x89, x90, x91, x92, x22, x23, by simp only [Act.put, List.setIfInBounds_toArray, List.set_cons_zero, List.set_cons_succ], t13, t14, B, hN, fun _ => rfl, fun h => p1 (by simpa [upb] using h), fun h => p2 (by simpa [upb] using h), fun h => p3 (by simpa [upb] using h), fun h => p4 (by simpa [upb] using h), fun h => p5 (by simpa [upb] using h), fun h => p6 (by simpa [upb] using h), fun h => p7 (by simpa [upb] using h), fun h => p8 (by simpa [upb] using h), fun h => p9 (by simpa [upb] using h), fun h => p10 (by simpa [upb] using h), fun h => (by obtain ⟨g, e, hg, u, v, tt, pp⟩ := p11 (by simpa [upb] using h); exact ⟨g, e, hg, u, v, tt, fun h => pp (by simpa [upb] using h)⟩), fun h => by have := q13 (by simpa [upb] using h); simpa [upb] using this, fun h => (by obtain ⟨g, e, hg, u, v, tt, pp⟩ := p12 (by simpa [upb] using h); exact ⟨g, e, hg, u, v, tt, fun h => pp (by simpa [upb] using h)⟩), fun h => by have := q14 (by simpa [upb] using h); simpa [upb] using this, fun h1 h2 => d11_12 (by simpa [upb] using h1) (by simpa [upb] using h2)⟩
        case op1 =>
          rintro bb _ w' ⟨x82, x83, x84, x85, x86, x87, x88, x89, x90, x91, x92, x22, x23, rfl, t13, t14, B, hN, p0, p1, p2, p3, p4, p5, p6, p7, p8, p9, p10, p11, q13, p12, q14, d11_12⟩ hb hd K hK
          simp only [Act.put, List.setIfInBounds_toArray, List.set_cons_zero, List.set_cons_succ]
          have c1 := t14.1; have c2 := t14.2.1
          rw [if_pos (by rfl)]
          go_simp
          refine hK _ _ ⟨x82, .agg #[.int .i32 X, .int .i32 Y], x84, x85, x86, x87, x88, x89, x90, x91, x92, x22, x23, by simp only [Act.put, List.setIfInBounds_toArray, List.set_cons_zero, List.set_cons_succ], t13, t14, B, hN, fun h => p0 (by simpa [upb] using h), fun _ => rfl, fun h => p2 (by simpa [upb] using h), fun h => p3 (by simpa [upb] using h), fun h => p4 (by simpa [upb] using h), fun h => p5 (by simpa [upb] using h), fun h => p6 (by simpa [upb] using h), fun h => p7 (by simpa [upb] using h), fun h => p8 (by simpa [upb] using h), fun h => p9 (by simpa [upb] using h), fun h => p10 (by simpa [upb] using h), fun h => (by obtain ⟨g, e, hg, u, v, tt, pp⟩ := p11 (by simpa [upb] using h); exact ⟨g, e, hg, u, v, tt, fun h => pp (by simpa [upb] using h)⟩), fun h => by have := q13 (by simpa [upb] using h); simpa [upb] using this, fun h => (by obtain ⟨g, e, hg, u, v, tt, pp⟩ := p12 (by simpa [upb] using h); exact ⟨g, e, hg, u, v, tt, fun h => pp (by simpa [upb] using h)⟩), fun h => by have := q14 (by simpa [upb] using h); simpa [upb] using this, fun h1 h2 => d11_12 (by simpa [upb] using h1) (by simpa [upb] using h2)⟩
        case op2 =>
          rintro bb _ w' ⟨x82, x83, x84, x85, x86, x87, x88, x89, x90, x91, x92, x22, x23, rfl, t13, t14, B, hN, p0, p1, p2, p3, p4, p5, p6, p7, p8, p9, p10, p11, q13, p12, q14, d11_12⟩ hb hd K hK
          simp only [Act.put, List.setIfInBounds_toArray, List.set_cons_zero, List.set_cons_succ]
          rw [if_pos (by rfl)]
          go_simp
          refine hK _ _ ⟨x82, x83, .int .i64 kk, x85, x86, x87, x88, x89, x90, x91, x92, x22, x23, by simp only [Act.put, List.setIfInBounds_toArray, List.set_cons_zero, List.set_cons_succ], t13, t14, B, hN, fun h => p0 (by simpa [upb] using h), fun h => p1 (by simpa [upb] using h), fun _ => rfl, fun h => p3 (by simpa [upb] using h), fun h => p4 (by simpa [upb] using h), fun h => p5 (by simpa [upb] using h), fun h => p6 (by simpa [upb] using h), fun h => p7 (by simpa [upb] using h), fun h => p8 (by simpa [upb] using h), fun h => p9 (by simpa [upb] using h), fun h => p10 (by simpa [upb] using h), fun h => (by obtain ⟨g, e, hg, u, v, tt, pp⟩ := p11 (by simpa [upb] using h); exact ⟨g, e, hg, u, v, tt, fun h => pp (by simpa [upb] using h)⟩), fun h => by have := q13 (by simpa [upb] using h); simpa [upb] using this, fun h => (by obtain ⟨g, e, hg, u, v, tt, pp⟩ := p12 (by simpa [upb] using h); exact ⟨g, e, hg, u, v, tt, fun h => pp (by simpa [upb] using h)⟩), fun h => by have := q14 (by simpa [upb] using h); simpa [upb] using this, fun h1 h2 => d11_12 (by simpa [upb] using h1) (by simpa [upb] using h2)⟩
        case op3 =>
          rintro bb _ w' ⟨x82, x83, x84, x85, x86, x87, x88, x89, x90, x91, x92, x22, x23, rfl, t13, t14, B, hN, p0, p1, p2, p3, p4, p5, p6, p7, p8, p9, p10, p11, q13, p12, q14, d11_12⟩ hb hd K hK
          simp only [Act.put, List.setIfInBounds_toArray, List.set_cons_zero, List.set_cons_succ]
          rw [if_pos (by rfl)]
          go_simp
          refine hK _ _ ⟨x82, x83, x84, .int .i64 nn, x86, x87, x88, x89, x90, x91, x92, x22, x23, by simp only [Act.put, List.setIfInBounds_toArray, List.set_cons_zero, List.set_cons_succ], t13, t14, B, hN, fun h => p0 (by simpa [upb] using h), fun h => p1 (by simpa [upb] using h), fun h => p2 (by simpa [upb] using h), fun _ => rfl, fun h => p4 (by simpa [upb] using h), fun h => p5 (by simpa [upb] using h), fun h => p6 (by simpa [upb] using h), fun h => p7 (by simpa [upb] using h), fun h => p8 (by simpa [upb] using h), fun h => p9 (by simpa [upb] using h), fun h => p10 (by simpa [upb] using h), fun h => (by obtain ⟨g, e, hg, u, v, tt, pp⟩ := p11 (by simpa [upb] using h); exact ⟨g, e, hg, u, v, tt, fun h => pp (by simpa [upb] using h)⟩), fun h => by have := q13 (by simpa [upb] using h); simpa [upb] using this, fun h => (by obtain ⟨g, e, hg, u, v, tt, pp⟩ := p12 (by simpa [upb] using h); exact ⟨g, e, hg, u, v, tt, fun h => pp (by simpa [upb] using h)⟩), fun h => by have := q14 (by simpa [upb] using h); simpa [upb] using this, fun h1 h2 => d11_12 (by simpa [upb] using h1) (by simpa [upb] using h2)⟩
        case op4 =>
          rintro bb _ w' ⟨x82, x83, x84, x85, x86, x87, x88, x89, x90, x91, x92, x22, x23, rfl, t13, t14, B, hN, p0, p1, p2, p3, p4, p5, p6, p7, p8, p9, p10, p11, q13, p12, q14, d11_12⟩ hb hd K hK
          simp only [Act.put, List.setIfInBounds_toArray, List.set_cons_zero, List.set_cons_succ]
          have e0 := p0 (hd 0 (by decide))
          subst e0
          have e1 := p1 (hd 1 (by decide))
          subst e1
          have e2 := p2 (hd 2 (by decide))
          subst e2
          have e3 := p3 (hd 3 (by decide))
          subst e3
          rw [if_pos (by rfl)]
          go_simp
          refine (cu _).mono ?_; rintro e w4 ⟨rfl, hbel⟩
          try dsimp only
          refine hK _ _ ⟨.agg #[.int .i32 px, .int .i32 py], .agg #[.int .i32 X, .int .i32 Y], .int .i64 kk, .int .i64 nn, .agg #[.int .i32 u0, .int .i32 u1], x87, x88, x89, x90, x91, x92, x22, x23, by simp only [Act.put, List.setIfInBounds_toArray, List.set_cons_zero, List.set_cons_succ], t13.next hbel, t14.next hbel, bnext B (by have := B.size; omega) hbel, Nat.le_trans hN hbel.size, fun h => p0 (by simpa [upb] using h), fun h => p1 (by simpa [upb] using h), fun h => p2 (by simpa [upb] using h), fun h => p3 (by simpa [upb] using h), fun _ => rfl, fun h => p5 (by simpa [upb] using h), fun h => p6 (by simpa [upb] using h), fun h => p7 (by simpa [upb] using h), fun h => p8 (by simpa [upb] using h), fun h => p9 (by simpa [upb] using h), fun h => p10 (by simpa [upb] using h), fun h => (by obtain ⟨g, e, hg, u, v, tt, pp⟩ := p11 (by simpa [upb] using h); exact ⟨g, e, hg, u, v, tt.next hbel, fun h => pp (by simpa [upb] using h)⟩), fun h => by have := q13 (by simpa [upb] using h); simpa [upb] using this, fun h => (by obtain ⟨g, e, hg, u, v, tt, pp⟩ := p12 (by simpa [upb] using h); exact ⟨g, e, hg, u, v, tt.next hbel, fun h => pp (by simpa [upb] using h)⟩), fun h => by have := q14 (by simpa [upb] using h); simpa [upb] using this, fun h1 h2 => d11_12 (by simpa [upb] using h1) (by simpa [upb] using h2)⟩
        case op5 =>
          rintro bb _ w' ⟨x82, x83, x84, x85, x86, x87, x88, x89, x90, x91, x92, x22, x23, rfl, t13, t14, B, hN, p0, p1, p2, p3, p4, p5, p6, p7, p8, p9, p10, p11, q13, p12, q14, d11_12⟩ hb hd K hK
          simp only [Act.put, List.setIfInBounds_toArray, List.set_cons_zero, List.set_cons_succ]
          have c1 := t13.1; have c2 := t13.2.1
          rw [if_pos (by rfl)]
          go_simp
          refine hK _ _ ⟨x82, x83, x84, x85, x86, .agg #[.int .i32 px, .int .i32 py], x88, x89, x90, x91, x92, x22, x23, by simp only [Act.put, List.setIfInBounds_toArray, List.set_cons_zero, List.set_cons_succ], t13, t14, B, hN, fun h => p0 (by simpa [upb] using h), fun h => p1 (by simpa [upb] using h), fun h => p2 (by simpa [upb] using h), fun h => p3 (by simpa [upb] using h), fun h => p4 (by simpa [upb] using h), fun _ => rfl, fun h => p6 (by simpa [upb] using h), fun h => p7 (by simpa [upb] using h), fun h => p8 (by simpa [upb] using h), fun h => p9 (by simpa [upb] using h), fun h => p10 (by simpa [upb] using h), fun h => (by obtain ⟨g, e, hg, u, v, tt, pp⟩ := p11 (by simpa [upb] using h); exact ⟨g, e, hg, u, v, tt, fun h => pp (by simpa [upb] using h)⟩), fun h => by have := q13 (by simpa [upb] using h); simpa [upb] using this, fun h => (by obtain ⟨g, e, hg, u, v, tt, pp⟩ := p12 (by simpa [upb] using h); exact ⟨g, e, hg, u, v, tt, fun h => pp (by simpa [upb] using h)⟩), fun h => by have := q14 (by simpa [upb] using h); simpa [upb] using this, fun h1 h2 => d11_12 (by simpa [upb] using h1) (by simpa [upb] using h2)⟩
        case op6 =>
          rintro bb _ w' ⟨x82, x83, x84, x85, x86, x87, x88, x89, x90, x91, x92, x22, x23, rfl, t13, t14, B, hN, p0, p1, p2, p3, p4, p5, p6, p7, p8, p9, p10, p11, q13, p12, q14, d11_12⟩ hb hd K hK
          simp only [Act.put, List.setIfInBounds_toArray, List.set_cons_zero, List.set_cons_succ]
          have c1 := t14.1; have c2 := t14.2.1
          rw [if_pos (by rfl)]
          go_simp
          refine hK _ _ ⟨x82, x83, x84, x85, x86, x87, .agg #[.int .i32 X, .int .i32 Y], x89, x90, x91, x92, x22, x23, by simp only [Act.put, List.setIfInBounds_toArray, List.set_cons_zero, List.set_cons_succ], t13, t14, B, hN, fun h => p0 (by simpa [upb] using h), fun h => p1 (by simpa [upb] using h), fun h => p2 (by simpa [upb] using h), fun h => p3 (by simpa [upb] using h), fun h => p4 (by simpa [upb] using h), fun h => p5 (by simpa [upb] using h), fun _ => rfl, fun h => p7 (by simpa [upb] using h), fun h => p8 (by simpa [upb] using h), fun h => p9 (by simpa [upb] using h), fun h => p10 (by simpa [upb] using h), fun h => (by obtain ⟨g, e, hg, u, v, tt, pp⟩ := p11 (by simpa [upb] using h); exact ⟨g, e, hg, u, v, tt, fun h => pp (by simpa [upb] using h)⟩), fun h => by have := q13 (by simpa [upb] using h); simpa [upb] using this, fun h => (by obtain ⟨g, e, hg, u, v, tt, pp⟩ := p12 (by simpa [upb] using h); exact ⟨g, e, hg, u, v, tt, fun h => pp (by simpa [upb] using h)⟩), fun h => by have := q14 (by simpa [upb] using h); simpa [upb] using this, fun h1 h2 => d11_12 (by simpa [upb] using h1) (by simpa [upb] using h2)⟩
        case op7 =>
          rintro bb _ w' ⟨x82, x83, x84, x85, x86, x87, x88, x89, x90, x91, x92, x22, x23, rfl, t13, t14, B, hN, p0, p1, p2, p3, p4, p5, p6, p7, p8, p9, p10, p11, q13, p12, q14, d11_12⟩ hb hd K hK
          simp only [Act.put, List.setIfInBounds_toArray, List.set_cons_zero, List.set_cons_succ]
          rw [if_pos (by rfl)]
          go_simp
          refine hK _ _ ⟨x82, x83, x84, x85, x86, x87, x88, .int .i64 kk, x90, x91, x92, x22, x23, by simp only [Act.put, List.setIfInBounds_toArray, List.set_cons_zero, List.set_cons_succ], t13, t14, B, hN, fun h => p0 (by simpa [upb] using h), fun h => p1 (by simpa [upb] using h), fun h => p2 (by simpa [upb] using h), fun h => p3 (by simpa [upb] using h), fun h => p4 (by simpa [upb] using h), fun h => p5 (by simpa [upb] using h), fun h => p6 (by simpa [upb] using h), fun _ => rfl, fun h => p8 (by simpa [upb] using h), fun h => p9 (by simpa [upb] using h), fun h => p10 (by simpa [upb] using h), fun h => (by obtain ⟨g, e, hg, u, v, tt, pp⟩ := p11 (by simpa [upb] using h); exact ⟨g, e, hg, u, v, tt, fun h => pp (by simpa [upb] using h)⟩), fun h => by have := q13 (by simpa [upb] using h); simpa [upb] using this, fun h => (by obtain ⟨g, e, hg, u, v, tt, pp⟩ := p12 (by simpa [upb] using h); exact ⟨g, e, hg, u, v, tt, fun h => pp (by simpa [upb] using h)⟩), fun h => by have := q14 (by simpa [upb] using h); simpa [upb] using this, fun h1 h2 => d11_12 (by simpa [upb] using h1) (by simpa [upb] using h2)⟩
        case op8 =>
          rintro bb _ w' ⟨x82, x83, x84, x85, x86, x87, x88, x89, x90, x91, x92, x22, x23, rfl, t13, t14, B, hN, p0, p1, p2, p3, p4, p5, p6, p7, p8, p9, p10, p11, q13, p12, q14, d11_12⟩ hb hd K hK
          simp only [Act.put, List.setIfInBounds_toArray, List.set_cons_zero, List.set_cons_succ]
          have e7 := p7 (hd 7 (by decide))
          subst e7
          rw [if_pos (by rfl)]
          go_simp
          refine hK _ _ ⟨x82, x83, x84, x85, x86, x87, x88, .int .i64 kk, .int .i64 (kk + 1), x91, x92, x22, x23, by simp only [Act.put, List.setIfInBounds_toArray, List.set_cons_zero, List.set_cons_succ], t13, t14, B, hN, fun h => p0 (by simpa [upb] using h), fun h => p1 (by simpa [upb] using h), fun h => p2 (by simpa [upb] using h), fun h => p3 (by simpa [upb] using h), fun h => p4 (by simpa [upb] using h), fun h => p5 (by simpa [upb] using h), fun h => p6 (by simpa [upb] using h), fun h => p7 (by simpa [upb] using h), fun _ => rfl, fun h => p9 (by simpa [upb] using h), fun h => p10 (by simpa [upb] using h), fun h => (by obtain ⟨g, e, hg, u, v, tt, pp⟩ := p11 (by simpa [upb] using h); exact ⟨g, e, hg, u, v, tt, fun h => pp (by simpa [upb] using h)⟩), fun h => by have := q13 (by simpa [upb] using h); simpa [upb] using this, fun h => (by obtain ⟨g, e, hg, u, v, tt, pp⟩ := p12 (by simpa [upb] using h); exact ⟨g, e, hg, u, v, tt, fun h => pp (by simpa [upb] using h)⟩), fun h => by have := q14 (by simpa [upb] using h); simpa [upb] using this, fun h1 h2 => d11_12 (by simpa [upb] using h1) (by simpa [upb] using h2)⟩
        case op9 =>
          rintro bb _ w' ⟨x82, x83, x84, x85, x86, x87, x88, x89, x90, x91, x92, x22, x23, rfl, t13, t14, B, hN, p0, p1, p2, p3, p4, p5, p6, p7, p8, p9, p10, p11, q13, p12, q14, d11_12⟩ hb hd K hK
          simp only [Act.put, List.setIfInBounds_toArray, List.set_cons_zero, List.set_cons_succ]
          rw [if_pos (by rfl)]
          go_simp
          refine hK _ _ ⟨x82, x83, x84, x85, x86, x87, x88, x89, x90, .int .i64 nn, x92, x22, x23, by simp only [Act.put, List.setIfInBounds_toArray, List.set_cons_zero, List.set_cons_succ], t13, t14, B, hN, fun h => p0 (by simpa [upb] using h), fun h => p1 (by simpa [upb] using h), fun h => p2 (by simpa [upb] using h), fun h => p3 (by simpa [upb] using h), fun h => p4 (by simpa [upb] using h), fun h => p5 (by simpa [upb] using h), fun h => p6 (by simpa [upb] using h), fun h => p7 (by simpa [upb] using h), fun h => p8 (by simpa [upb] using h), fun _ => rfl, fun h => p10 (by simpa [upb] using h), fun h => (by obtain ⟨g, e, hg, u, v, tt, pp⟩ := p11 (by simpa [upb] using h); exact ⟨g, e, hg, u, v, tt, fun h => pp (by simpa [upb] using h)⟩), fun h => by have := q13 (by simpa [upb] using h); simpa [upb] using this, fun h => (by obtain ⟨g, e, hg, u, v, tt, pp⟩ := p12 (by simpa [upb] using h); exact ⟨g, e, hg, u, v, tt, fun h => pp (by simpa [upb] using h)⟩), fun h => by have := q14 (by simpa [upb] using h); simpa [upb] using this, fun h1 h2 => d11_12 (by simpa [upb] using h1) (by simpa [upb] using h2)⟩
        case op10 =>
          rintro bb _ w' ⟨x82, x83, x84, x85, x86, x87, x88, x89, x90, x91, x92, x22, x23, rfl, t13, t14, B, hN, p0, p1, p2, p3, p4, p5, p6, p7, p8, p9, p10, p11, q13, p12, q14, d11_12⟩ hb hd K hK
          simp only [Act.put, List.setIfInBounds_toArray, List.set_cons_zero, List.set_cons_succ]
          have e5 := p5 (hd 5 (by decide))
          subst e5
          have e6 := p6 (hd 6 (by decide))
          subst e6
          have e8 := p8 (hd 8 (by decide))
          subst e8
          have e9 := p9 (hd 9 (by decide))
          subst e9
          rw [if_pos (by rfl)]
          go_simp
          refine (cv _).mono ?_; rintro e w4 ⟨rfl, hbel⟩
          try dsimp only
          refine hK _ _ ⟨x82, x83, x84, x85, x86, .agg #[.int .i32 px, .int .i32 py], .agg #[.int .i32 X, .int .i32 Y], x89, .int .i64 (kk + 1), .int .i64 nn, .agg #[.int .i32 v0, .int .i32 v1], x22, x23, by simp only [Act.put, List.setIfInBounds_toArray, List.set_cons_zero, List.set_cons_succ], t13.next hbel, t14.next hbel, bnext B (by have := B.size; omega) hbel, Nat.le_trans hN hbel.size, fun h => p0 (by simpa [upb] using h), fun h => p1 (by simpa [upb] using h), fun h => p2 (by simpa [upb] using h), fun h => p3 (by simpa [upb] using h), fun h => p4 (by simpa [upb] using h), fun h => p5 (by simpa [upb] using h), fun h => p6 (by simpa [upb] using h), fun h => p7 (by simpa [upb] using h), fun h => p8 (by simpa [upb] using h), fun h => p9 (by simpa [upb] using h), fun _ => rfl, fun h => (by obtain ⟨g, e, hg, u, v, tt, pp⟩ := p11 (by simpa [upb] using h); exact ⟨g, e, hg, u, v, tt.next hbel, fun h => pp (by simpa [upb] using h)⟩), fun h => by have := q13 (by simpa [upb] using h); simpa [upb] using this, fun h => (by obtain ⟨g, e, hg, u, v, tt, pp⟩ := p12 (by simpa [upb] using h); exact ⟨g, e, hg, u, v, tt.next hbel, fun h => pp (by simpa [upb] using h)⟩), fun h => by have := q14 (by simpa [upb] using h); simpa [upb] using this, fun h1 h2 => d11_12 (by simpa [upb] using h1) (by simpa [upb] using h2)⟩
        case op11 =>
          rintro bb _ w' ⟨x82, x83, x84, x85, x86, x87, x88, x89, x90, x91, x92, x22, x23, rfl, t13, t14, B, hN, p0, p1, p2, p3, p4, p5, p6, p7, p8, p9, p10, p11, q13, p12, q14, d11_12⟩ hb hd K hK
          simp only [Act.put, List.setIfInBounds_toArray, List.set_cons_zero, List.set_cons_succ]
          rw [if_pos (by rfl)]
          go_simp
          have hbel : Below w'.heap.size w' (w'.alloc (.cells #[.int .i32 0, .int .i32 0] 44)) := (Below.refl _ _).alloc (Nat.le_refl _) _
          refine hK _ _ ⟨x82, x83, x84, x85, x86, x87, x88, x89, x90, x91, x92, .pointer (some ⟨w'.heap.size, 0, none⟩), x23, by simp only [Act.put, List.setIfInBounds_toArray, List.set_cons_zero, List.set_cons_succ], t13.next hbel, t14.next hbel, bnext B (by have := B.size; omega) hbel, Nat.le_trans hN hbel.size, fun h => p0 (by simpa [upb] using h), fun h => p1 (by simpa [upb] using h), fun h => p2 (by simpa [upb] using h), fun h => p3 (by simpa [upb] using h), fun h => p4 (by simpa [upb] using h), fun h => p5 (by simpa [upb] using h), fun h => p6 (by simpa [upb] using h), fun h => p7 (by simpa [upb] using h), fun h => p8 (by simpa [upb] using h), fun h => p9 (by simpa [upb] using h), fun h => p10 (by simpa [upb] using h), fun _ => ⟨_, rfl, hN, _, _, two_alloc _ _ _ _, fun h => absurd (q13 (by simpa [upb] using h)) (by rw [hb]; decide)⟩, fun _ => by simp [upb], fun h => (by obtain ⟨g, e, hg, u, v, tt, pp⟩ := p12 (by simpa [upb] using h); exact ⟨g, e, hg, u, v, tt.next hbel, fun h => pp (by simpa [upb] using h)⟩), fun h => by have := q14 (by simpa [upb] using h); simpa [upb] using this, fun h1 h2 => (by obtain ⟨g, e, hg, u, v, tt, pp⟩ := p12 (by simpa [upb] using h2); have := tt.2.2.2; rw [e]; simp <;> omega)⟩
        case op12 =>
          rintro bb _ w' ⟨x82, x83, x84, x85, x86, x87, x88, x89, x90, x91, x92, x22, x23, rfl, t13, t14, B, hN, p0, p1, p2, p3, p4, p5, p6, p7, p8, p9, p10, p11, q13, p12, q14, d11_12⟩ hb hd K hK
          simp only [Act.put, List.setIfInBounds_toArray, List.set_cons_zero, List.set_cons_succ]
          rw [if_pos (by rfl)]
          go_simp
          have hbel : Below w'.heap.size w' (w'.alloc (.cells #[.int .i32 0, .int .i32 0] 44)) := (Below.refl _ _).alloc (Nat.le_refl _) _
          refine hK _ _ ⟨x82, x83, x84, x85, x86, x87, x88, x89, x90, x91, x92, x22, .pointer (some ⟨w'.heap.size, 0, none⟩), by simp only [Act.put, List.setIfInBounds_toArray, List.set_cons_zero, List.set_cons_succ], t13.next hbel, t14.next hbel, bnext B (by have := B.size; omega) hbel, Nat.le_trans hN hbel.size, fun h => p0 (by simpa [upb] using h), fun h => p1 (by simpa [upb] using h), fun h => p2 (by simpa [upb] using h), fun h => p3 (by simpa [upb] using h), fun h => p4 (by simpa [upb] using h), fun h => p5 (by simpa [upb] using h), fun h => p6 (by simpa [upb] using h), fun h => p7 (by simpa [upb] using h), fun h => p8 (by simpa [upb] using h), fun h => p9 (by simpa [upb] using h), fun h => p10 (by simpa [upb] using h), fun h => (by obtain ⟨g, e, hg, u, v, tt, pp⟩ := p11 (by simpa [upb] using h); exact ⟨g, e, hg, u, v, tt.next hbel, fun h => pp (by simpa [upb] using h)⟩), fun h => by have := q13 (by simpa [upb] using h); simpa [upb] using this, fun _ => ⟨_, rfl, hN, _, _, two_alloc _ _ _ _, fun h => absurd (q14 (by simpa [upb] using h)) (by rw [hb]; decide)⟩, fun _ => by simp [upb], fun h1 h2 => (by obtain ⟨g, e, hg, u, v, tt, pp⟩ := p11 (by simpa [upb] using h1); have := tt.2.2.2; rw [e]; simp <;> omega)⟩
        case op13 =>
          rintro bb _ w' ⟨x82, x83, x84, x85, x86, x87, x88, x89, x90, x91, x92, x22, x23, rfl, t13, t14, B, hN, p0, p1, p2, p3, p4, p5, p6, p7, p8, p9, p10, p11, q13, p12, q14, d11_12⟩ hb hd K hK
          simp only [Act.put, List.setIfInBounds_toArray, List.set_cons_zero, List.set_cons_succ]
          have e4 := p4 (hd 4 (by decide))
          subst e4
          obtain ⟨g, eg, hg, u, v, tg, -⟩ := p11 (hd 11 (by decide))
          obtain ⟨g12, eg12, hg12, u12, v12, tg12, pg12⟩ := p12 (hd 12 (by decide))
          have hne12 : g12 ≠ g := fun e => d11_12 (hd 11 (by decide)) (hd 12 (by decide)) (by rw [eg, eg12, e])
          have c1 := tg.1; have c2 := tg.2.1; have c3 := tg.2.2.1
          subst eg
          subst eg12
          rw [if_pos (by rfl)]
          go_simp
          refine hK _ _ ⟨x82, x83, x84, x85, .agg #[.int .i32 u0, .int .i32 u1], x87, x88, x89, x90, x91, x92, .pointer (some ⟨g, 0, none⟩), .pointer (some ⟨g12, 0, none⟩), by simp only [Act.put, List.setIfInBounds_toArray, List.set_cons_zero, List.set_cons_succ], t13.other (by omega) _ _, t14.other (by omega) _ _, (B.setCell (by simp; omega) _).setCell (by simp; omega) _, by simpa using hN, fun h => p0 (by simpa [upb] using h), fun h => p1 (by simpa [upb] using h), fun h => p2 (by simpa [upb] using h), fun h => p3 (by simpa [upb] using h), fun h => p4 (by simpa [upb] using h), fun h => p5 (by simpa [upb] using h), fun h => p6 (by simpa [upb] using h), fun h => p7 (by simpa [upb] using h), fun h => p8 (by simpa [upb] using h), fun h => p9 (by simpa [upb] using h), fun h => p10 (by simpa [upb] using h), fun _ => ⟨g, rfl, hg, _, _, tg.store _ _, fun _ => ⟨rfl, rfl⟩⟩, fun _ => by simpa [upb] using hd 11 (by decide), fun h => ⟨g12, rfl, hg12, u12, v12, tg12.other hne12 _ _, fun h => pg12 (by simpa [upb] using h)⟩, fun h => by have := q14 (by simpa [upb] using h); simpa [upb] using this, fun h1 h2 => d11_12 (by simpa [upb] using h1) (by simpa [upb] using h2)⟩
        case op14 =>
          rintro bb _ w' ⟨x82, x83, x84, x85, x86, x87, x88, x89, x90, x91, x92, x22, x23, rfl, t13, t14, B, hN, p0, p1, p2, p3, p4, p5, p6, p7, p8, p9, p10, p11, q13, p12, q14, d11_12⟩ hb hd K hK
          simp only [Act.put, List.setIfInBounds_toArray, List.set_cons_zero, List.set_cons_succ]
          have e10 := p10 (hd 10 (by decide))
          subst e10
          obtain ⟨g, eg, hg, u, v, tg, -⟩ := p12 (hd 12 (by decide))
          obtain ⟨g11, eg11, hg11, u11, v11, tg11, pg11⟩ := p11 (hd 11 (by decide))
          have hne11 : g11 ≠ g := fun e => d11_12 (hd 11 (by decide)) (hd 12 (by decide)) (by rw [eg, eg11, e])
          have c1 := tg.1; have c2 := tg.2.1; have c3 := tg.2.2.1
          subst eg
          subst eg11
          rw [if_pos (by rfl)]
          go_simp
          refine hK _ _ ⟨x82, x83, x84, x85, x86, x87, x88, x89, x90, x91, .agg #[.int .i32 v0, .int .i32 v1], .pointer (some ⟨g11, 0, none⟩), .pointer (some ⟨g, 0, none⟩), by simp only [Act.put, List.setIfInBounds_toArray, List.set_cons_zero, List.set_cons_succ], t13.other (by omega) _ _, t14.other (by omega) _ _, (B.setCell (by simp; omega) _).setCell (by simp; omega) _, by simpa using hN, fun h => p0 (by simpa [upb] using h), fun h => p1 (by simpa [upb] using h), fun h => p2 (by simpa [upb] using h), fun h => p3 (by simpa [upb] using h), fun h => p4 (by simpa [upb] using h), fun h => p5 (by simpa [upb] using h), fun h => p6 (by simpa [upb] using h), fun h => p7 (by simpa [upb] using h), fun h => p8 (by simpa [upb] using h), fun h => p9 (by simpa [upb] using h), fun h => p10 (by simpa [upb] using h), fun h => ⟨g11, rfl, hg11, u11, v11, tg11.other hne11 _ _, fun h => pg11 (by simpa [upb] using h)⟩, fun h => by have := q13 (by simpa [upb] using h); simpa [upb] using this, fun _ => ⟨g, rfl, hg, _, _, tg.store _ _, fun _ => ⟨rfl, rfl⟩⟩, fun _ => by simpa [upb] using hd 12 (by decide), fun h1 h2 => d11_12 (by simpa [upb] using h1) (by simpa [upb] using h2)⟩
        case done =>
          rintro bb _ w' hb ⟨x82, x83, x84, x85, x86, x87, x88, x89, x90, x91, x92, x22, x23, rfl, t13, t14, B, hN, p0, p1, p2, p3, p4, p5, p6, p7, p8, p9, p10, p11, q13, p12, q14, d11_12⟩
          obtain ⟨g, rfl, hg, u, v, tg, pg⟩ := p11 (hb 11 (by decide))
          obtain ⟨rfl, rfl⟩ := pg (hb 13 (by decide))
          obtain ⟨h, rfl, hh, u, v, th, ph⟩ := p12 (hb 12 (by decide))
          obtain ⟨rfl, rfl⟩ := ph (hb 14 (by decide))
          clear p11 p12 pg ph q13 q14 d11_12 p0 p1 p2 p3 p4 p5 p6 p7 p8 p9 p10 hb cu cv hw1
          simp only [Act.put, List.setIfInBounds_toArray, List.set_cons_zero, List.set_cons_succ]
          go_wp2_with fail
          have q13a := fun D O => cell_regrown t13.1 D O; have q13b := fun D O => cell_regrown t13.2.1 D O
          have q14a := fun D O => cell_regrown t14.1 D O; have q14b := fun D O => cell_regrown t14.2.1 D O
          have qga := fun D O => cell_regrown tg.1 D O; have qgb := fun D O => cell_regrown tg.2.1 D O
          have qha := fun D O => cell_regrown th.1 D O; have qhb := fun D O => cell_regrown th.2.1 D O
          refine wp_region_quiet_below (by kernel_rfl) (by kernel_rfl) ?_
          repeat (go_big_quiet_step (first | (go_at_call 21; exact Calls.regrown_of (between_val _ _ _ _ _ _ _ _ m1 m2 (by omega) (by first | exact part_zero _ _ _ | exact part_all _ _ _ (by omega)) (by first | exact part_zero _ _ _ | exact part_all _ _ _ (by omega)) _)) | (go_at_call 25; exact Calls.regrown_of (nearer_below _ _ _ _ (by assumption) _)) | (go_at_call 23; exact Calls.regrown_of (wakes_true _))))
          refine wpQuiet_nil ?_
          intro _ hw'
          obtain ⟨⟨dq, osq⟩, hw''⟩ := hw'
          subst hw''
          go_wp2_with fail
          go_ret
          exact ⟨rfl, bstep B (below_regrown _ _ _)⟩
      · have hlt2 : ¬ (k : Int) < (st : Int) := by omega
        have rt13a := t13.1; have rt13b := t13.2.1; have rt13c := t13.2.2.1; have rt13z := t13.2.2.2
        have rt14a := t14.1; have rt14b := t14.2.1; have rt14c := t14.2.2.1; have rt14z := t14.2.2.2
        have rt15a := t15.1; have rt15b := t15.2.1; have rt15c := t15.2.2.1; have rt15z := t15.2.2.2
        go_wp2_with fail
        clear rt13a rt13b rt13c rt13z rt14a rt14b rt14c rt14z rt15a rt15b rt15c rt15z
        generalize hnn : 1 + all = nn at *
        generalize hkk : part % nn = kk at *
        clear hnn hkk
        have mx := part_mono px X kk nn (by omega) (by omega)
        have my := part_mono py Y kk nn (by omega) (by omega)
        have cu := fun W => between_in px py X Y kk nn m1 m2 (by omega) W
        have cv := fun W => between_in px py X Y (kk + 1) nn m1 m2 (by omega) W
        generalize partI px X kk nn = u0 at *
        generalize partI py Y kk nn = u1 at *
        generalize partI px X (kk + 1) nn = v0 at *
        generalize partI py Y (kk + 1) nn = v1 at *
        have hw1 : IntKind.i64.wrap (kk + 1) = kk + 1 := IntWalk.i64_in _ (by omega)
        refine wp_region_inv (fun a0 w0 b a' w' => ∃ x82 x83 x84 x85 x86 x87 x88 x89 x90 x91 x92 x22 x23 : Value, a' = (((((((((((((a0.put (some 82) x82).put (some 83) x83).put (some 84) x84).put (some 85) x85).put (some 86) x86).put (some 87) x87).put (some 88) x88).put (some 89) x89).put (some 90) x90).put (some 91) x91).put (some 92) x92).put (some 22) x22).put (some 23) x23)
              ∧ Two w' (j) (.int .i32 px) (.int .i32 py)
              ∧ Two w' (j + 1) (.int .i32 X) (.int .i32 Y)
              ∧ Below w.heap.size w w'
              ∧ j + 3 ≤ w'.heap.size
              ∧ (b 0 = true → x82 = .agg #[.int .i32 px, .int .i32 py])
              ∧ (b 1 = true → x83 = .agg #[.int .i32 X, .int .i32 Y])
              ∧ (b 2 = true → x84 = .int .i64 kk)
              ∧ (b 3 = true → x85 = .int .i64 nn)
              ∧ (b 4 = true → x86 = .agg #[.int .i32 u0, .int .i32 u1])
              ∧ (b 5 = true → x87 = .agg #[.int .i32 px, .int .i32 py])
              ∧ (b 6 = true → x88 = .agg #[.int .i32 X, .int .i32 Y])
              ∧ (b 7 = true → x89 = .int .i64 kk)
              ∧ (b 8 = true → x90 = .int .i64 (kk + 1))
              ∧ (b 9 = true → x91 = .int .i64 nn)
              ∧ (b 10 = true → x92 = .agg #[.int .i32 v0, .int .i32 v1])
              ∧ (b 11 = true → ∃ g, x22 = .pointer (some ⟨g, 0, none⟩) ∧ j + 3 ≤ g ∧ ∃ u v, Two w' g u v ∧ (b 13 = true → u = .int .i32 u0 ∧ v = .int .i32 u1))
              ∧ (b 13 = true → b 11 = true)
              ∧ (b 12 = true → ∃ g, x23 = .pointer (some ⟨g, 0, none⟩) ∧ j + 3 ≤ g ∧ ∃ u v, Two w' g u v ∧ (b 14 = true → u = .int .i32 v0 ∧ v = .int .i32 v1))
              ∧ (b 14 = true → b 12 = true)
              ∧ (b 11 = true → b 12 = true → x22 ≠ x23)) (by kernel_rfl) (by kernel_rfl) ?start ⟨?op0, ?op1, ?op2, ?op3, ?op4, ?op5, ?op6, ?op7, ?op8, ?op9, ?op10, ?op11, ?op12, ?op13, ?op14, trivial⟩ ?done
        case start =>
          exact ⟨_, _, _, _, _, _, _, _, _, _, _, _, _, by simp only [Act.put, List.setIfInBounds_toArray, List.set_cons_zero, List.set_cons_succ]; rfl, t13.drewd, t14.drewd, B.drew, (by have := t15.2.2.2; simp; omega), by simp, by simp, by simp, by simp, by simp, by simp, by simp, by simp, by simp, by simp, by simp, by simp, by simp, by simp, by simp, by simp⟩
        case op0 =>
          rintro bb _ w' ⟨x82, x83, x84, x85, x86, x87, x88, x89, x90, x91, x92, x22, x23, rfl, t13, t14, B, hN, p0, p1, p2, p3, p4, p5, p6, p7, p8, p9, p10, p11, q13, p12, q14, d11_12⟩ hb hd K hK
          simp only [Act.put, List.setIfInBounds_toArray, List.set_cons_zero, List.set_cons_succ]
          have c1 := t13.1; have c2 := t13.2.1
          rw [if_pos (by rfl)]
          go_simp
          refine hK _ _ ⟨.agg #[.int .i32 px, .int .i32 py], x83, x84, x85, x86, x87, x88, x89, x90, x91, x92, x22, x23, by simp only [Act.put, List.setIfInBounds_toArray, List.set_cons_zero, List.set_cons_succ], t13, t14, B, hN, fun _ => rfl, fun h => p1 (by simpa [upb] using h), fun h => p2 (by simpa [upb] using h), fun h => p3 (by simpa [upb] using h), fun h => p4 (by simpa [upb] using h), fun h => p5 (by simpa [upb] using h), fun h => p6 (by simpa [upb] using h), fun h => p7 (by simpa [upb] using h), fun h => p8 (by simpa [upb] using h), fun h => p9 (by simpa [upb] using h), fun h => p10 (by simpa [upb] using h), fun h => (by obtain ⟨g, e, hg, u, v, tt, pp⟩ := p11 (by simpa [upb] using h); exact ⟨g, e, hg, u, v, tt, fun h => pp (by simpa [upb] using h)⟩), fun h => by have := q13 (by simpa [upb] using h); simpa [upb] using this, fun h => (by obtain ⟨g, e, hg, u, v, tt, pp⟩ := p12 (by simpa [upb] using h); exact ⟨g, e, hg, u, v, tt, fun h => pp (by simpa [upb] using h)⟩), fun h => by have := q14 (by simpa [upb] using h); simpa [upb] using this, fun h1 h2 => d11_12 (by simpa [upb] using h1) (by simpa [upb] using h2)⟩
        case op1 =>
          rintro bb _ w' ⟨x82, x83, x84, x85, x86, x87, x88, x89, x90, x91, x92, x22, x23, rfl, t13, t14, B, hN, p0, p1, p2, p3, p4, p5, p6, p7, p8, p9, p10, p11, q13, p12, q14, d11_12⟩ hb hd K hK
          simp only [Act.put, List.setIfInBounds_toArray, List.set_cons_zero, List.set_cons_succ]
          have c1 := t14.1; have c2 := t14.2.1
          rw [if_pos (by rfl)]
          go_simp
          refine hK _ _ ⟨x82, .agg #[.int .i32 X, .int .i32 Y], x84, x85, x86, x87, x88, x89, x90, x91, x92, x22, x23, by simp only [Act.put, List.setIfInBounds_toArray, List.set_cons_zero, List.set_cons_succ], t13, t14, B, hN, fun h => p0 (by simpa [upb] using h), fun _ => rfl, fun h => p2 (by simpa [upb] using h), fun h => p3 (by simpa [upb] using h), fun h => p4 (by simpa [upb] using h), fun h => p5 (by simpa [upb] using h), fun h => p6 (by simpa [upb] using h), fun h => p7 (by simpa [upb] using h), fun h => p8 (by simpa [upb] using h), fun h => p9 (by simpa [upb] using h), fun h => p10 (by simpa [upb] using h), fun h => (by obtain ⟨g, e, hg, u, v, tt, pp⟩ := p11 (by simpa [upb] using h); exact ⟨g, e, hg, u, v, tt, fun h => pp (by simpa [upb] using h)⟩), fun h => by have := q13 (by simpa [upb] using h); simpa [upb] using this, fun h => (by obtain ⟨g, e, hg, u, v, tt, pp⟩ := p12 (by simpa [upb] using h); exact ⟨g, e, hg, u, v, tt, fun h => pp (by simpa [upb] using h)⟩), fun h => by have := q14 (by simpa [upb] using h); simpa [upb] using this, fun h1 h2 => d11_12 (by simpa [upb] using h1) (by simpa [upb] using h2)⟩
        case op2 =>
          rintro bb _ w' ⟨x82, x83, x84, x85, x86, x87, x88, x89, x90, x91, x92, x22, x23, rfl, t13, t14, B, hN, p0, p1, p2, p3, p4, p5, p6, p7, p8, p9, p10, p11, q13, p12, q14, d11_12⟩ hb hd K hK
          simp only [Act.put, List.setIfInBounds_toArray, List.set_cons_zero, List.set_cons_succ]
          rw [if_pos (by rfl)]
          go_simp
          refine hK _ _ ⟨x82, x83, .int .i64 kk, x85, x86, x87, x88, x89, x90, x91, x92, x22, x23, by simp only [Act.put, List.setIfInBounds_toArray, List.set_cons_zero, List.set_cons_succ], t13, t14, B, hN, fun h => p0 (by simpa [upb] using h), fun h => p1 (by simpa [upb] using h), fun _ => rfl, fun h => p3 (by simpa [upb] using h), fun h => p4 (by simpa [upb] using h), fun h => p5 (by simpa [upb] using h), fun h => p6 (by simpa [upb] using h), fun h => p7 (by simpa [upb] using h), fun h => p8 (by simpa [upb] using h), fun h => p9 (by simpa [upb] using h), fun h => p10 (by simpa [upb] using h), fun h => (by obtain ⟨g, e, hg, u, v, tt, pp⟩ := p11 (by simpa [upb] using h); exact ⟨g, e, hg, u, v, tt, fun h => pp (by simpa [upb] using h)⟩), fun h => by have := q13 (by simpa [upb] using h); simpa [upb] using this, fun h => (by obtain ⟨g, e, hg, u, v, tt, pp⟩ := p12 (by simpa [upb] using h); exact ⟨g, e, hg, u, v, tt, fun h => pp (by simpa [upb] using h)⟩), fun h => by have := q14 (by simpa [upb] using h); simpa [upb] using this, fun h1 h2 => d11_12 (by simpa [upb] using h1) (by simpa [upb] using h2)⟩
        case op3 =>
          rintro bb _ w' ⟨x82, x83, x84, x85, x86, x87, x88, x89, x90, x91, x92, x22, x23, rfl, t13, t14, B, hN, p0, p1, p2, p3, p4, p5, p6, p7, p8, p9, p10, p11, q13, p12, q14, d11_12⟩ hb hd K hK
          simp only [Act.put, List.setIfInBounds_toArray, List.set_cons_zero, List.set_cons_succ]
          rw [if_pos (by rfl)]
          go_simp
          refine hK _ _ ⟨x82, x83, x84, .int .i64 nn, x86, x87, x88, x89, x90, x91, x92, x22, x23, by simp only [Act.put, List.setIfInBounds_toArray, List.set_cons_zero, List.set_cons_succ], t13, t14, B, hN, fun h => p0 (by simpa [upb] using h), fun h => p1 (by simpa [upb] using h), fun h => p2 (by simpa [upb] using h), fun _ => rfl, fun h => p4 (by simpa [upb] using h), fun h => p5 (by simpa [upb] using h), fun h => p6 (by simpa [upb] using h), fun h => p7 (by simpa [upb] using h), fun h => p8 (by simpa [upb] using h), fun h => p9 (by simpa [upb] using h), fun h => p10 (by simpa [upb] using h), fun h => (by obtain ⟨g, e, hg, u, v, tt, pp⟩ := p11 (by simpa [upb] using h); exact ⟨g, e, hg, u, v, tt, fun h => pp (by simpa [upb] using h)⟩), fun h => by have := q13 (by simpa [upb] using h); simpa [upb] using this, fun h => (by obtain ⟨g, e, hg, u, v, tt, pp⟩ := p12 (by simpa [upb] using h); exact ⟨g, e, hg, u, v, tt, fun h => pp (by simpa [upb] using h)⟩), fun h => by have := q14 (by simpa [upb] using h); simpa [upb] using this, fun h1 h2 => d11_12 (by simpa [upb] using h1) (by simpa [upb] using h2)⟩
        case op4 =>
          rintro bb _ w' ⟨x82, x83, x84, x85, x86, x87, x88, x89, x90, x91, x92, x22, x23, rfl, t13, t14, B, hN, p0, p1, p2, p3, p4, p5, p6, p7, p8, p9, p10, p11, q13, p12, q14, d11_12⟩ hb hd K hK
          simp only [Act.put, List.setIfInBounds_toArray, List.set_cons_zero, List.set_cons_succ]
          have e0 := p0 (hd 0 (by decide))
          subst e0
          have e1 := p1 (hd 1 (by decide))
          subst e1
          have e2 := p2 (hd 2 (by decide))
          subst e2
          have e3 := p3 (hd 3 (by decide))
          subst e3
          rw [if_pos (by rfl)]
          go_simp
          refine (cu _).mono ?_; rintro e w4 ⟨rfl, hbel⟩
          try dsimp only
          refine hK _ _ ⟨.agg #[.int .i32 px, .int .i32 py], .agg #[.int .i32 X, .int .i32 Y], .int .i64 kk, .int .i64 nn, .agg #[.int .i32 u0, .int .i32 u1], x87, x88, x89, x90, x91, x92, x22, x23, by simp only [Act.put, List.setIfInBounds_toArray, List.set_cons_zero, List.set_cons_succ], t13.next hbel, t14.next hbel, bnext B (by have := B.size; omega) hbel, Nat.le_trans hN hbel.size, fun h => p0 (by simpa [upb] using h), fun h => p1 (by simpa [upb] using h), fun h => p2 (by simpa [upb] using h), fun h => p3 (by simpa [upb] using h), fun _ => rfl, fun h => p5 (by simpa [upb] using h), fun h => p6 (by simpa [upb] using h), fun h => p7 (by simpa [upb] using h), fun h => p8 (by simpa [upb] using h), fun h => p9 (by simpa [upb] using h), fun h => p10 (by simpa [upb] using h), fun h => (by obtain ⟨g, e, hg, u, v, tt, pp⟩ := p11 (by simpa [upb] using h); exact ⟨g, e, hg, u, v, tt.next hbel, fun h => pp (by simpa [upb] using h)⟩), fun h => by have := q13 (by simpa [upb] using h); simpa [upb] using this, fun h => (by obtain ⟨g, e, hg, u, v, tt, pp⟩ := p12 (by simpa [upb] using h); exact ⟨g, e, hg, u, v, tt.next hbel, fun h => pp (by simpa [upb] using h)⟩), fun h => by have := q14 (by simpa [upb] using h); simpa [upb] using this, fun h1 h2 => d11_12 (by simpa [upb] using h1) (by simpa [upb] using h2)⟩
        case op5 =>
          rintro bb _ w' ⟨x82, x83, x84, x85, x86, x87, x88, x89, x90, x91, x92, x22, x23, rfl, t13, t14, B, hN, p0, p1, p2, p3, p4, p5, p6, p7, p8, p9, p10, p11, q13, p12, q14, d11_12⟩ hb hd K hK
          simp only [Act.put, List.setIfInBounds_toArray, List.set_cons_zero, List.set_cons_succ]
          have c1 := t13.1; have c2 := t13.2.1
          rw [if_pos (by rfl)]
          go_simp
          refine hK _ _ ⟨x82, x83, x84, x85, x86, .agg #[.int .i32 px, .int .i32 py], x88, x89, x90, x91, x92, x22, x23, by simp only [Act.put, List.setIfInBounds_toArray, List.set_cons_zero, List.set_cons_succ], t13, t14, B, hN, fun h => p0 (by simpa [upb] using h), fun h => p1 (by simpa [upb] using h), fun h => p2 (by simpa [upb] using h), fun h => p3 (by simpa [upb] using h), fun h => p4 (by simpa [upb] using h), fun _ => rfl, fun h => p6 (by simpa [upb] using h), fun h => p7 (by simpa [upb] using h), fun h => p8 (by simpa [upb] using h), fun h => p9 (by simpa [upb] using h), fun h => p10 (by simpa [upb] using h), fun h => (by obtain ⟨g, e, hg, u, v, tt, pp⟩ := p11 (by simpa [upb] using h); exact ⟨g, e, hg, u, v, tt, fun h => pp (by simpa [upb] using h)⟩), fun h => by have := q13 (by simpa [upb] using h); simpa [upb] using this, fun h => (by obtain ⟨g, e, hg, u, v, tt, pp⟩ := p12 (by simpa [upb] using h); exact ⟨g, e, hg, u, v, tt, fun h => pp (by simpa [upb] using h)⟩), fun h => by have := q14 (by simpa [upb] using h); simpa [upb] using this, fun h1 h2 => d11_12 (by simpa [upb] using h1) (by simpa [upb] using h2)⟩
        case op6 =>
          rintro bb _ w' ⟨x82, x83, x84, x85, x86, x87, x88, x89, x90, x91, x92, x22, x23, rfl, t13, t14, B, hN, p0, p1, p2, p3, p4, p5, p6, p7, p8, p9, p10, p11, q13, p12, q14, d11_12⟩ hb hd K hK
          simp only [Act.put, List.setIfInBounds_toArray, List.set_cons_zero, List.set_cons_succ]
          have c1 := t14.1; have c2 := t14.2.1
          rw [if_pos (by rfl)]
          go_simp
          refine hK _ _ ⟨x82, x83, x84, x85, x86, x87, .agg #[.int .i32 X, .int .i32 Y], x89, x90, x91, x92, x22, x23, by simp only [Act.put, List.setIfInBounds_toArray, List.set_cons_zero, List.set_cons_succ], t13, t14, B, hN, fun h => p0 (by simpa [upb] using h), fun h => p1 (by simpa [upb] using h), fun h => p2 (by simpa [upb] using h), fun h => p3 (by simpa [upb] using h), fun h => p4 (by simpa [upb] using h), fun h => p5 (by simpa [upb] using h), fun _ => rfl, fun h => p7 (by simpa [upb] using h), fun h => p8 (by simpa [upb] using h), fun h => p9 (by simpa [upb] using h), fun h => p10 (by simpa [upb] using h), fun h => (by obtain ⟨g, e, hg, u, v, tt, pp⟩ := p11 (by simpa [upb] using h); exact ⟨g, e, hg, u, v, tt, fun h => pp (by simpa [upb] using h)⟩), fun h => by have := q13 (by simpa [upb] using h); simpa [upb] using this, fun h => (by obtain ⟨g, e, hg, u, v, tt, pp⟩ := p12 (by simpa [upb] using h); exact ⟨g, e, hg, u, v, tt, fun h => pp (by simpa [upb] using h)⟩), fun h => by have := q14 (by simpa [upb] using h); simpa [upb] using this, fun h1 h2 => d11_12 (by simpa [upb] using h1) (by simpa [upb] using h2)⟩
        case op7 =>
          rintro bb _ w' ⟨x82, x83, x84, x85, x86, x87, x88, x89, x90, x91, x92, x22, x23, rfl, t13, t14, B, hN, p0, p1, p2, p3, p4, p5, p6, p7, p8, p9, p10, p11, q13, p12, q14, d11_12⟩ hb hd K hK
          simp only [Act.put, List.setIfInBounds_toArray, List.set_cons_zero, List.set_cons_succ]
          rw [if_pos (by rfl)]
          go_simp
          refine hK _ _ ⟨x82, x83, x84, x85, x86, x87, x88, .int .i64 kk, x90, x91, x92, x22, x23, by simp only [Act.put, List.setIfInBounds_toArray, List.set_cons_zero, List.set_cons_succ], t13, t14, B, hN, fun h => p0 (by simpa [upb] using h), fun h => p1 (by simpa [upb] using h), fun h => p2 (by simpa [upb] using h), fun h => p3 (by simpa [upb] using h), fun h => p4 (by simpa [upb] using h), fun h => p5 (by simpa [upb] using h), fun h => p6 (by simpa [upb] using h), fun _ => rfl, fun h => p8 (by simpa [upb] using h), fun h => p9 (by simpa [upb] using h), fun h => p10 (by simpa [upb] using h), fun h => (by obtain ⟨g, e, hg, u, v, tt, pp⟩ := p11 (by simpa [upb] using h); exact ⟨g, e, hg, u, v, tt, fun h => pp (by simpa [upb] using h)⟩), fun h => by have := q13 (by simpa [upb] using h); simpa [upb] using this, fun h => (by obtain ⟨g, e, hg, u, v, tt, pp⟩ := p12 (by simpa [upb] using h); exact ⟨g, e, hg, u, v, tt, fun h => pp (by simpa [upb] using h)⟩), fun h => by have := q14 (by simpa [upb] using h); simpa [upb] using this, fun h1 h2 => d11_12 (by simpa [upb] using h1) (by simpa [upb] using h2)⟩
        case op8 =>
          rintro bb _ w' ⟨x82, x83, x84, x85, x86, x87, x88, x89, x90, x91, x92, x22, x23, rfl, t13, t14, B, hN, p0, p1, p2, p3, p4, p5, p6, p7, p8, p9, p10, p11, q13, p12, q14, d11_12⟩ hb hd K hK
          simp only [Act.put, List.setIfInBounds_toArray, List.set_cons_zero, List.set_cons_succ]
          have e7 := p7 (hd 7 (by decide))
          subst e7
          rw [if_pos (by rfl)]
          go_simp
          refine hK _ _ ⟨x82, x83, x84, x85, x86, x87, x88, .int .i64 kk, .int .i64 (kk + 1), x91, x92, x22, x23, by simp only [Act.put, List.setIfInBounds_toArray, List.set_cons_zero, List.set_cons_succ], t13, t14, B, hN, fun h => p0 (by simpa [upb] using h), fun h => p1 (by simpa [upb] using h), fun h => p2 (by simpa [upb] using h), fun h => p3 (by simpa [upb] using h), fun h => p4 (by simpa [upb] using h), fun h => p5 (by simpa [upb] using h), fun h => p6 (by simpa [upb] using h), fun h => p7 (by simpa [upb] using h), fun _ => rfl, fun h => p9 (by simpa [upb] using h), fun h => p10 (by simpa [upb] using h), fun h => (by obtain ⟨g, e, hg, u, v, tt, pp⟩ := p11 (by simpa [upb] using h); exact ⟨g, e, hg, u, v, tt, fun h => pp (by simpa [upb] using h)⟩), fun h => by have := q13 (by simpa [upb] using h); simpa [upb] using this, fun h => (by obtain ⟨g, e, hg, u, v, tt, pp⟩ := p12 (by simpa [upb] using h); exact ⟨g, e, hg, u, v, tt, fun h => pp (by simpa [upb] using h)⟩), fun h => by have := q14 (by simpa [upb] using h); simpa [upb] using this, fun h1 h2 => d11_12 (by simpa [upb] using h1) (by simpa [upb] using h2)⟩
        case op9 =>
          rintro bb _ w' ⟨x82, x83, x84, x85, x86, x87, x88, x89, x90, x91, x92, x22, x23, rfl, t13, t14, B, hN, p0, p1, p2, p3, p4, p5, p6, p7, p8, p9, p10, p11, q13, p12, q14, d11_12⟩ hb hd K hK
          simp only [Act.put, List.setIfInBounds_toArray, List.set_cons_zero, List.set_cons_succ]
          rw [if_pos (by rfl)]
          go_simp
          refine hK _ _ ⟨x82, x83, x84, x85, x86, x87, x88, x89, x90, .int .i64 nn, x92, x22, x23, by simp only [Act.put, List.setIfInBounds_toArray, List.set_cons_zero, List.set_cons_succ], t13, t14, B, hN, fun h => p0 (by simpa [upb] using h), fun h => p1 (by simpa [upb] using h), fun h => p2 (by simpa [upb] using h), fun h => p3 (by simpa [upb] using h), fun h => p4 (by simpa [upb] using h), fun h => p5 (by simpa [upb] using h), fun h => p6 (by simpa [upb] using h), fun h => p7 (by simpa [upb] using h), fun h => p8 (by simpa [upb] using h), fun _ => rfl, fun h => p10 (by simpa [upb] using h), fun h => (by obtain ⟨g, e, hg, u, v, tt, pp⟩ := p11 (by simpa [upb] using h); exact ⟨g, e, hg, u, v, tt, fun h => pp (by simpa [upb] using h)⟩), fun h => by have := q13 (by simpa [upb] using h); simpa [upb] using this, fun h => (by obtain ⟨g, e, hg, u, v, tt, pp⟩ := p12 (by simpa [upb] using h); exact ⟨g, e, hg, u, v, tt, fun h => pp (by simpa [upb] using h)⟩), fun h => by have := q14 (by simpa [upb] using h); simpa [upb] using this, fun h1 h2 => d11_12 (by simpa [upb] using h1) (by simpa [upb] using h2)⟩
        case op10 =>
          rintro bb _ w' ⟨x82, x83, x84, x85, x86, x87, x88, x89, x90, x91, x92, x22, x23, rfl, t13, t14, B, hN, p0, p1, p2, p3, p4, p5, p6, p7, p8, p9, p10, p11, q13, p12, q14, d11_12⟩ hb hd K hK
          simp only [Act.put, List.setIfInBounds_toArray, List.set_cons_zero, List.set_cons_succ]
          have e5 := p5 (hd 5 (by decide))
          subst e5
          have e6 := p6 (hd 6 (by decide))
          subst e6
          have e8 := p8 (hd 8 (by decide))
          subst e8
          have e9 := p9 (hd 9 (by decide))
          subst e9
          rw [if_pos (by rfl)]
          go_simp
          refine (cv _).mono ?_; rintro e w4 ⟨rfl, hbel⟩
          try dsimp only
          refine hK _ _ ⟨x82, x83, x84, x85, x86, .agg #[.int .i32 px, .int .i32 py], .agg #[.int .i32 X, .int .i32 Y], x89, .int .i64 (kk + 1), .int .i64 nn, .agg #[.int .i32 v0, .int .i32 v1], x22, x23, by simp only [Act.put, List.setIfInBounds_toArray, List.set_cons_zero, List.set_cons_succ], t13.next hbel, t14.next hbel, bnext B (by have := B.size; omega) hbel, Nat.le_trans hN hbel.size, fun h => p0 (by simpa [upb] using h), fun h => p1 (by simpa [upb] using h), fun h => p2 (by simpa [upb] using h), fun h => p3 (by simpa [upb] using h), fun h => p4 (by simpa [upb] using h), fun h => p5 (by simpa [upb] using h), fun h => p6 (by simpa [upb] using h), fun h => p7 (by simpa [upb] using h), fun h => p8 (by simpa [upb] using h), fun h => p9 (by simpa [upb] using h), fun _ => rfl, fun h => (by obtain ⟨g, e, hg, u, v, tt, pp⟩ := p11 (by simpa [upb] using h); exact ⟨g, e, hg, u, v, tt.next hbel, fun h => pp (by simpa [upb] using h)⟩), fun h => by have := q13 (by simpa [upb] using h); simpa [upb] using this, fun h => (by obtain ⟨g, e, hg, u, v, tt, pp⟩ := p12 (by simpa [upb] using h); exact ⟨g, e, hg, u, v, tt.next hbel, fun h => pp (by simpa [upb] using h)⟩), fun h => by have := q14 (by simpa [upb] using h); simpa [upb] using this, fun h1 h2 => d11_12 (by simpa [upb] using h1) (by simpa [upb] using h2)⟩
        case op11 =>
          rintro bb _ w' ⟨x82, x83, x84, x85, x86, x87, x88, x89, x90, x91, x92, x22, x23, rfl, t13, t14, B, hN, p0, p1, p2, p3, p4, p5, p6, p7, p8, p9, p10, p11, q13, p12, q14, d11_12⟩ hb hd K hK
          simp only [Act.put, List.setIfInBounds_toArray, List.set_cons_zero, List.set_cons_succ]
          rw [if_pos (by rfl)]
          go_simp
          have hbel : Below w'.heap.size w' (w'.alloc (.cells #[.int .i32 0, .int .i32 0] 44)) := (Below.refl _ _).alloc (Nat.le_refl _) _
          refine hK _ _ ⟨x82, x83, x84, x85, x86, x87, x88, x89, x90, x91, x92, .pointer (some ⟨w'.heap.size, 0, none⟩), x23, by simp only [Act.put, List.setIfInBounds_toArray, List.set_cons_zero, List.set_cons_succ], t13.next hbel, t14.next hbel, bnext B (by have := B.size; omega) hbel, Nat.le_trans hN hbel.size, fun h => p0 (by simpa [upb] using h), fun h => p1 (by simpa [upb] using h), fun h => p2 (by simpa [upb] using h), fun h => p3 (by simpa [upb] using h), fun h => p4 (by simpa [upb] using h), fun h => p5 (by simpa [upb] using h), fun h => p6 (by simpa [upb] using h), fun h => p7 (by simpa [upb] using h), fun h => p8 (by simpa [upb] using h), fun h => p9 (by simpa [upb] using h), fun h => p10 (by simpa [upb] using h), fun _ => ⟨_, rfl, hN, _, _, two_alloc _ _ _ _, fun h => absurd (q13 (by simpa [upb] using h)) (by rw [hb]; decide)⟩, fun _ => by simp [upb], fun h => (by obtain ⟨g, e, hg, u, v, tt, pp⟩ := p12 (by simpa [upb] using h); exact ⟨g, e, hg, u, v, tt.next hbel, fun h => pp (by simpa [upb] using h)⟩), fun h => by have := q14 (by simpa [upb] using h); simpa [upb] using this, fun h1 h2 => (by obtain ⟨g, e, hg, u, v, tt, pp⟩ := p12 (by simpa [upb] using h2); have := tt.2.2.2; rw [e]; simp <;> omega)⟩
        case op12 =>
          rintro bb _ w' ⟨x82, x83, x84, x85, x86, x87, x88, x89, x90, x91, x92, x22, x23, rfl, t13, t14, B, hN, p0, p1, p2, p3, p4, p5, p6, p7, p8, p9, p10, p11, q13, p12, q14, d11_12⟩ hb hd K hK
          simp only [Act.put, List.setIfInBounds_toArray, List.set_cons_zero, List.set_cons_succ]
          rw [if_pos (by rfl)]
          go_simp
          have hbel : Below w'.heap.size w' (w'.alloc (.cells #[.int .i32 0, .int .i32 0] 44)) := (Below.refl _ _).alloc (Nat.le_refl _) _
          refine hK _ _ ⟨x82, x83, x84, x85, x86, x87, x88, x89, x90, x91, x92, x22, .pointer (some ⟨w'.heap.size, 0, none⟩), by simp only [Act.put, List.setIfInBounds_toArray, List.set_cons_zero, List.set_cons_succ], t13.next hbel, t14.next hbel, bnext B (by have := B.size; omega) hbel, Nat.le_trans hN hbel.size, fun h => p0 (by simpa [upb] using h), fun h => p1 (by simpa [upb] using h), fun h => p2 (by simpa [upb] using h), fun h => p3 (by simpa [upb] using h), fun h => p4 (by simpa [upb] using h), fun h => p5 (by simpa [upb] using h), fun h => p6 (by simpa [upb] using h), fun h => p7 (by simpa [upb] using h), fun h => p8 (by simpa [upb] using h), fun h => p9 (by simpa [upb] using h), fun h => p10 (by simpa [upb] using h), fun h => (by obtain ⟨g, e, hg, u, v, tt, pp⟩ := p11 (by simpa [upb] using h); exact ⟨g, e, hg, u, v, tt.next hbel, fun h => pp (by simpa [upb] using h)⟩), fun h => by have := q13 (by simpa [upb] using h); simpa [upb] using this, fun _ => ⟨_, rfl, hN, _, _, two_alloc _ _ _ _, fun h => absurd (q14 (by simpa [upb] using h)) (by rw [hb]; decide)⟩, fun _ => by simp [upb], fun h1 h2 => (by obtain ⟨g, e, hg, u, v, tt, pp⟩ := p11 (by simpa [upb] using h1); have := tt.2.2.2; rw [e]; simp <;> omega)⟩
        case op13 =>
          rintro bb _ w' ⟨x82, x83, x84, x85, x86, x87, x88, x89, x90, x91, x92, x22, x23, rfl, t13, t14, B, hN, p0, p1, p2, p3, p4, p5, p6, p7, p8, p9, p10, p11, q13, p12, q14, d11_12⟩ hb hd K hK
          simp only [Act.put, List.setIfInBounds_toArray, List.set_cons_zero, List.set_cons_succ]
          have e4 := p4 (hd 4 (by decide))
          subst e4
          obtain ⟨g, eg, hg, u, v, tg, -⟩ := p11 (hd 11 (by decide))
          obtain ⟨g12, eg12, hg12, u12, v12, tg12, pg12⟩ := p12 (hd 12 (by decide))
          have hne12 : g12 ≠ g := fun e => d11_12 (hd 11 (by decide)) (hd 12 (by decide)) (by rw [eg, eg12, e])
          have c1 := tg.1; have c2 := tg.2.1; have c3 := tg.2.2.1
          subst eg
          subst eg12
          rw [if_pos (by rfl)]
          go_simp
          refine hK _ _ ⟨x82, x83, x84, x85, .agg #[.int .i32 u0, .int .i32 u1], x87, x88, x89, x90, x91, x92, .pointer (some ⟨g, 0, none⟩), .pointer (some ⟨g12, 0, none⟩), by simp only [Act.put, List.setIfInBounds_toArray, List.set_cons_zero, List.set_cons_succ], t13.other (by omega) _ _, t14.other (by omega) _ _, (B.setCell (by simp; omega) _).setCell (by simp; omega) _, by simpa using hN, fun h => p0 (by simpa [upb] using h), fun h => p1 (by simpa [upb] using h), fun h => p2 (by simpa [upb] using h), fun h => p3 (by simpa [upb] using h), fun h => p4 (by simpa [upb] using h), fun h => p5 (by simpa [upb] using h), fun h => p6 (by simpa [upb] using h), fun h => p7 (by simpa [upb] using h), fun h => p8 (by simpa [upb] using h), fun h => p9 (by simpa [upb] using h), fun h => p10 (by simpa [upb] using h), fun _ => ⟨g, rfl, hg, _, _, tg.store _ _, fun _ => ⟨rfl, rfl⟩⟩, fun _ => by simpa [upb] using hd 11 (by decide), fun h => ⟨g12, rfl, hg12, u12, v12, tg12.other hne12 _ _, fun h => pg12 (by simpa [upb] using h)⟩, fun h => by have := q14 (by simpa [upb] using h); simpa [upb] using this, fun h1 h2 => d11_12 (by simpa [upb] using h1) (by simpa [upb] using h2)⟩
        case op14 =>
          rintro bb _ w' ⟨x82, x83, x84, x85, x86, x87, x88, x89, x90, x91, x92, x22, x23, rfl, t13, t14, B, hN, p0, p1, p2, p3, p4, p5, p6, p7, p8, p9, p10, p11, q13, p12, q14, d11_12⟩ hb hd K hK
          simp only [Act.put, List.setIfInBounds_toArray, List.set_cons_zero, List.set_cons_succ]
          have e10 := p10 (hd 10 (by decide))
          subst e10
          obtain ⟨g, eg, hg, u, v, tg, -⟩ := p12 (hd 12 (by decide))
          obtain ⟨g11, eg11, hg11, u11, v11, tg11, pg11⟩ := p11 (hd 11 (by decide))
          have hne11 : g11 ≠ g := fun e => d11_12 (hd 11 (by decide)) (hd 12 (by decide)) (by rw [eg, eg11, e])
          have c1 := tg.1; have c2 := tg.2.1; have c3 := tg.2.2.1
          subst eg
          subst eg11
          rw [if_pos (by rfl)]
          go_simp
          refine hK _ _ ⟨x82, x83, x84, x85, x86, x87, x88, x89, x90, x91, .agg #[.int .i32 v0, .int .i32 v1], .pointer (some ⟨g11, 0, none⟩), .pointer (some ⟨g, 0, none⟩), by simp only [Act.put, List.setIfInBounds_toArray, List.set_cons_zero, List.set_cons_succ], t13.other (by omega) _ _, t14.other (by omega) _ _, (B.setCell (by simp; omega) _).setCell (by simp; omega) _, by simpa using hN, fun h => p0 (by simpa [upb] using h), fun h => p1 (by simpa [upb] using h), fun h => p2 (by simpa [upb] using h), fun h => p3 (by simpa [upb] using h), fun h => p4 (by simpa [upb] using h), fun h => p5 (by simpa [upb] using h), fun h => p6 (by simpa [upb] using h), fun h => p7 (by simpa [upb] using h), fun h => p8 (by simpa [upb] using h), fun h => p9 (by simpa [upb] using h), fun h => p10 (by simpa [upb] using h), fun h => ⟨g11, rfl, hg11, u11, v11, tg11.other hne11 _ _, fun h => pg11 (by simpa [upb] using h)⟩, fun h => by have := q13 (by simpa [upb] using h); simpa [upb] using this, fun _ => ⟨g, rfl, hg, _, _, tg.store _ _, fun _ => ⟨rfl, rfl⟩⟩, fun _ => by simpa [upb] using hd 12 (by decide), fun h1 h2 => d11_12 (by simpa [upb] using h1) (by simpa [upb] using h2)⟩
        case done =>
          rintro bb _ w' hb ⟨x82, x83, x84, x85, x86, x87, x88, x89, x90, x91, x92, x22, x23, rfl, t13, t14, B, hN, p0, p1, p2, p3, p4, p5, p6, p7, p8, p9, p10, p11, q13, p12, q14, d11_12⟩
          obtain ⟨g, rfl, hg, u, v, tg, pg⟩ := p11 (hb 11 (by decide))
          obtain ⟨rfl, rfl⟩ := pg (hb 13 (by decide))
          obtain ⟨h, rfl, hh, u, v, th, ph⟩ := p12 (hb 12 (by decide))
          obtain ⟨rfl, rfl⟩ := ph (hb 14 (by decide))
          clear p11 p12 pg ph q13 q14 d11_12 p0 p1 p2 p3 p4 p5 p6 p7 p8 p9 p10 hb cu cv hw1
          simp only [Act.put, List.setIfInBounds_toArray, List.set_cons_zero, List.set_cons_succ]
          go_wp2_with fail
          have q13a := fun D O => cell_regrown t13.1 D O; have q13b := fun D O => cell_regrown t13.2.1 D O
          have q14a := fun D O => cell_regrown t14.1 D O; have q14b := fun D O => cell_regrown t14.2.1 D O
          have qga := fun D O => cell_regrown tg.1 D O; have qgb := fun D O => cell_regrown tg.2.1 D O
          have qha := fun D O => cell_regrown th.1 D O; have qhb := fun D O => cell_regrown th.2.1 D O
          refine wp_region_quiet_below (by kernel_rfl) (by kernel_rfl) ?_
          repeat (go_big_quiet_step (first | (go_at_call 21; exact Calls.regrown_of (between_val _ _ _ _ _ _ _ _ m1 m2 (by omega) (by first | exact part_zero _ _ _ | exact part_all _ _ _ (by omega)) (by first | exact part_zero _ _ _ | exact part_all _ _ _ (by omega)) _)) | (go_at_call 25; exact Calls.regrown_of (nearer_below _ _ _ _ (by assumption) _)) | (go_at_call 23; exact Calls.regrown_of (wakes_true _))))
          refine wpQuiet_nil ?_
          intro _ hw'
          obtain ⟨⟨dq, osq⟩, hw''⟩ := hw'
          subst hw''
          go_wp2_with fail
          go_ret
          exact ⟨rfl, bstep B (below_regrown _ _ _)⟩
end Go.Proofs.Ytfdbibddhneklab
