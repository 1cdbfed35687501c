/- The walk of the law FixTells. No condition. -/
import Derived.Test.YtfdbibddhneklabF8
import Derived.Deep.Cut
namespace Go.Proofs.Ytfdbibddhneklab
open Go.RowKit RootP Go.Sort
set_option maxHeartbeats 4000000 in
set_option maxRecDepth 100000 in
theorem fixTells_any (a b' c d s p n x y : Int) (ha : -2147483648 ≤ a ∧ a ≤ 2147483647) (hb' : -2147483648 ≤ b' ∧ b' ≤ 2147483647) (hc : -2147483648 ≤ c ∧ c ≤ 2147483647) (hd' : -2147483648 ≤ d ∧ d ≤ 2147483647) (hs : -2147483648 ≤ s ∧ s ≤ 2147483647) (w : World) :
    Calls Try.prog 4 #[.agg #[.int .i32 a, .int .i32 b'], .agg #[.int .i32 c, .int .i32 d], .int .i32 s, .int .i64 p, .int .i64 n, .int .i64 x, .int .i64 y] w fun e w' => e = .returned (.bool true) ∧ Below w.heap.size w w' := by
  have kb1 := fun w => back_any a b' ha hb' w
  have kb2 := fun w => back_any c d hc hd' w
  have kt := fun w => toward_any a b' c d s w
  have ktR := fun w => towardR_any a b' c d s w
  go_enter Try.func4, Try.ntmps4
  go_wp2_with fail
  have k7 : Two ((w.alloc (.cells #[.int .i32 a, .int .i32 b'] 44)).alloc (.cells #[.int .i32 c, .int .i32 d] 44)).drew w.heap.size (.int .i32 a) (.int .i32 b') := ⟨by simp [go_sem], by simp [go_sem], fun o => by simp [go_sem], by simp <;> omega⟩
  have k8 : Two ((w.alloc (.cells #[.int .i32 a, .int .i32 b'] 44)).alloc (.cells #[.int .i32 c, .int .i32 d] 44)).drew (w.heap.size + 1) (.int .i32 c) (.int .i32 d) := ⟨by simp [go_sem], by simp [go_sem], fun o => by simp [go_sem], by simp <;> omega⟩
  have k0 : Below w.heap.size w ((w.alloc (.cells #[.int .i32 a, .int .i32 b'] 44)).alloc (.cells #[.int .i32 c, .int .i32 d] 44)).drew := (((Below.refl _ _).alloc (Nat.le_refl _) _).alloc (by simp) _).drew
  refine wp_region_inv (fun a0 w0 b a' w' => ∃ x23 x24 x25 x26 x15 x16 : Value, a' = ((((((a0.put (some 23) x23).put (some 24) x24).put (some 25) x25).put (some 26) x26).put (some 15) x15).put (some 16) x16)
        ∧ Two w' (w.heap.size) (.int .i32 a) (.int .i32 b')
        ∧ Two w' (w.heap.size + 1) (.int .i32 c) (.int .i32 d)
        ∧ Below w.heap.size w w'
        ∧ w.heap.size + 2 ≤ w'.heap.size
        ∧ (b 0 = true → x23 = .agg #[.int .i32 a, .int .i32 b'])
        ∧ (b 1 = true → x24 = .agg #[.int .i64 a, .int .i64 b'])
        ∧ (b 2 = true → x25 = .agg #[.int .i32 c, .int .i32 d])
        ∧ (b 3 = true → x26 = .agg #[.int .i64 c, .int .i64 d])
        ∧ (b 4 = true → ∃ g, x15 = .pointer (some ⟨g, 0, none⟩) ∧ w.heap.size + 2 ≤ g ∧ ∃ u v, Two w' g u v ∧ (b 6 = true → u = .int .i64 a ∧ v = .int .i64 b'))
        ∧ (b 6 = true → b 4 = true)
        ∧ (b 5 = true → ∃ g, x16 = .pointer (some ⟨g, 0, none⟩) ∧ w.heap.size + 2 ≤ g ∧ ∃ u v, Two w' g u v ∧ (b 7 = true → u = .int .i64 c ∧ v = .int .i64 d))
        ∧ (b 7 = true → b 5 = true)
        ∧ (b 4 = true → b 5 = true → x15 ≠ x16)) (by kernel_rfl) (by kernel_rfl) ?start ⟨?op0, ?op1, ?op2, ?op3, ?op4, ?op5, ?op6, ?op7, trivial⟩ ?done
  case start =>
    exact ⟨_, _, _, _, _, _, by simp only [Act.put, List.setIfInBounds_toArray, List.set_cons_zero, List.set_cons_succ]; rfl, k7, k8, k0, by simp, by simp, by simp, by simp, by simp, by simp, by simp, by simp, by simp, by simp⟩
  case op0 =>
    rintro bb _ w' ⟨x23, x24, x25, x26, x15, x16, rfl, t7, t8, B, hN, p0, p1, p2, p3, p4, q6, p5, q7, d4_5⟩ hb hd K hK
    simp only [Act.put, List.setIfInBounds_toArray, List.set_cons_zero, List.set_cons_succ]
    have c1 := t7.1; have c2 := t7.2.1
    rw [if_pos (by rfl)]
    go_simp
    refine hK _ _ ⟨.agg #[.int .i32 a, .int .i32 b'], x24, x25, x26, x15, x16, by simp only [Act.put, List.setIfInBounds_toArray, List.set_cons_zero, List.set_cons_succ], t7, t8, B, hN, fun _ => rfl, fun h => p1 (by simpa [upb] using h), fun h => p2 (by simpa [upb] using h), fun h => p3 (by simpa [upb] using h), fun h => (by obtain ⟨g, e, hg, u, v, tt, pp⟩ := p4 (by simpa [upb] using h); exact ⟨g, e, hg, u, v, tt, fun h => pp (by simpa [upb] using h)⟩), fun h => by have := q6 (by simpa [upb] using h); simpa [upb] using this, fun h => (by obtain ⟨g, e, hg, u, v, tt, pp⟩ := p5 (by simpa [upb] using h); exact ⟨g, e, hg, u, v, tt, fun h => pp (by simpa [upb] using h)⟩), fun h => by have := q7 (by simpa [upb] using h); simpa [upb] using this, fun h1 h2 => d4_5 (by simpa [upb] using h1) (by simpa [upb] using h2)⟩
  case op1 =>
    rintro bb _ w' ⟨x23, x24, x25, x26, x15, x16, rfl, t7, t8, B, hN, p0, p1, p2, p3, p4, q6, p5, q7, d4_5⟩ hb hd K hK
    simp only [Act.put, List.setIfInBounds_toArray, List.set_cons_zero, List.set_cons_succ]
    have e0 := p0 (hd 0 (by decide))
    subst e0
    rw [if_pos (by rfl)]
    go_simp
    refine (kb1 _).mono ?_; rintro e w4 ⟨rfl, hbel⟩
    try dsimp only
    refine hK _ _ ⟨.agg #[.int .i32 a, .int .i32 b'], .agg #[.int .i64 a, .int .i64 b'], x25, x26, x15, x16, by simp only [Act.put, List.setIfInBounds_toArray, List.set_cons_zero, List.set_cons_succ], t7.next hbel, t8.next hbel, bnext B (by have := B.size; omega) hbel, Nat.le_trans hN hbel.size, fun h => p0 (by simpa [upb] using h), fun _ => rfl, fun h => p2 (by simpa [upb] using h), fun h => p3 (by simpa [upb] using h), fun h => (by obtain ⟨g, e, hg, u, v, tt, pp⟩ := p4 (by simpa [upb] using h); exact ⟨g, e, hg, u, v, tt.next hbel, fun h => pp (by simpa [upb] using h)⟩), fun h => by have := q6 (by simpa [upb] using h); simpa [upb] using this, fun h => (by obtain ⟨g, e, hg, u, v, tt, pp⟩ := p5 (by simpa [upb] using h); exact ⟨g, e, hg, u, v, tt.next hbel, fun h => pp (by simpa [upb] using h)⟩), fun h => by have := q7 (by simpa [upb] using h); simpa [upb] using this, fun h1 h2 => d4_5 (by simpa [upb] using h1) (by simpa [upb] using h2)⟩
  case op2 =>
    rintro bb _ w' ⟨x23, x24, x25, x26, x15, x16, rfl, t7, t8, B, hN, p0, p1, p2, p3, p4, q6, p5, q7, d4_5⟩ hb hd K hK
    simp only [Act.put, List.setIfInBounds_toArray, List.set_cons_zero, List.set_cons_succ]
    have c1 := t8.1; have c2 := t8.2.1
    rw [if_pos (by rfl)]
    go_simp
    refine hK _ _ ⟨x23, x24, .agg #[.int .i32 c, .int .i32 d], x26, x15, x16, by simp only [Act.put, List.setIfInBounds_toArray, List.set_cons_zero, List.set_cons_succ], t7, t8, B, hN, fun h => p0 (by simpa [upb] using h), fun h => p1 (by simpa [upb] using h), fun _ => rfl, fun h => p3 (by simpa [upb] using h), fun h => (by obtain ⟨g, e, hg, u, v, tt, pp⟩ := p4 (by simpa [upb] using h); exact ⟨g, e, hg, u, v, tt, fun h => pp (by simpa [upb] using h)⟩), fun h => by have := q6 (by simpa [upb] using h); simpa [upb] using this, fun h => (by obtain ⟨g, e, hg, u, v, tt, pp⟩ := p5 (by simpa [upb] using h); exact ⟨g, e, hg, u, v, tt, fun h => pp (by simpa [upb] using h)⟩), fun h => by have := q7 (by simpa [upb] using h); simpa [upb] using this, fun h1 h2 => d4_5 (by simpa [upb] using h1) (by simpa [upb] using h2)⟩
  case op3 =>
    rintro bb _ w' ⟨x23, x24, x25, x26, x15, x16, rfl, t7, t8, B, hN, p0, p1, p2, p3, p4, q6, p5, q7, d4_5⟩ hb hd K hK
    simp only [Act.put, List.setIfInBounds_toArray, List.set_cons_zero, List.set_cons_succ]
    have e2 := p2 (hd 2 (by decide))
    subst e2
    rw [if_pos (by rfl)]
    go_simp
    refine (kb2 _).mono ?_; rintro e w4 ⟨rfl, hbel⟩
    try dsimp only
    refine hK _ _ ⟨x23, x24, .agg #[.int .i32 c, .int .i32 d], .agg #[.int .i64 c, .int .i64 d], x15, x16, by simp only [Act.put, List.setIfInBounds_toArray, List.set_cons_zero, List.set_cons_succ], t7.next hbel, t8.next hbel, bnext B (by have := B.size; omega) hbel, Nat.le_trans hN hbel.size, fun h => p0 (by simpa [upb] using h), fun h => p1 (by simpa [upb] using h), fun h => p2 (by simpa [upb] using h), fun _ => rfl, fun h => (by obtain ⟨g, e, hg, u, v, tt, pp⟩ := p4 (by simpa [upb] using h); exact ⟨g, e, hg, u, v, tt.next hbel, fun h => pp (by simpa [upb] using h)⟩), fun h => by have := q6 (by simpa [upb] using h); simpa [upb] using this, fun h => (by obtain ⟨g, e, hg, u, v, tt, pp⟩ := p5 (by simpa [upb] using h); exact ⟨g, e, hg, u, v, tt.next hbel, fun h => pp (by simpa [upb] using h)⟩), fun h => by have := q7 (by simpa [upb] using h); simpa [upb] using this, fun h1 h2 => d4_5 (by simpa [upb] using h1) (by simpa [upb] using h2)⟩
  case op4 =>
    rintro bb _ w' ⟨x23, x24, x25, x26, x15, x16, rfl, t7, t8, B, hN, p0, p1, p2, p3, p4, q6, p5, q7, d4_5⟩ hb hd K hK
    simp only [Act.put, List.setIfInBounds_toArray, List.set_cons_zero, List.set_cons_succ]
    rw [if_pos (by rfl)]
    go_simp
    have hbel : Below w'.heap.size w' (w'.alloc (.cells #[.int .i64 0, .int .i64 0] 46)) := (Below.refl _ _).alloc (Nat.le_refl _) _
    refine hK _ _ ⟨x23, x24, x25, x26, .pointer (some ⟨w'.heap.size, 0, none⟩), x16, by simp only [Act.put, List.setIfInBounds_toArray, List.set_cons_zero, List.set_cons_succ], t7.next hbel, t8.next hbel, bnext B (by have := B.size; omega) hbel, Nat.le_trans hN hbel.size, fun h => p0 (by simpa [upb] using h), fun h => p1 (by simpa [upb] using h), fun h => p2 (by simpa [upb] using h), fun h => p3 (by simpa [upb] using h), fun _ => ⟨_, rfl, hN, _, _, two_alloc _ _ _ _, fun h => absurd (q6 (by simpa [upb] using h)) (by rw [hb]; decide)⟩, fun _ => by simp [upb], fun h => (by obtain ⟨g, e, hg, u, v, tt, pp⟩ := p5 (by simpa [upb] using h); exact ⟨g, e, hg, u, v, tt.next hbel, fun h => pp (by simpa [upb] using h)⟩), fun h => by have := q7 (by simpa [upb] using h); simpa [upb] using this, fun h1 h2 => (by obtain ⟨g, e, hg, u, v, tt, pp⟩ := p5 (by simpa [upb] using h2); have := tt.2.2.2; rw [e]; simp <;> omega)⟩
  case op5 =>
    rintro bb _ w' ⟨x23, x24, x25, x26, x15, x16, rfl, t7, t8, B, hN, p0, p1, p2, p3, p4, q6, p5, q7, d4_5⟩ hb hd K hK
    simp only [Act.put, List.setIfInBounds_toArray, List.set_cons_zero, List.set_cons_succ]
    rw [if_pos (by rfl)]
    go_simp
    have hbel : Below w'.heap.size w' (w'.alloc (.cells #[.int .i64 0, .int .i64 0] 46)) := (Below.refl _ _).alloc (Nat.le_refl _) _
    refine hK _ _ ⟨x23, x24, x25, x26, x15, .pointer (some ⟨w'.heap.size, 0, none⟩), by simp only [Act.put, List.setIfInBounds_toArray, List.set_cons_zero, List.set_cons_succ], t7.next hbel, t8.next hbel, bnext B (by have := B.size; omega) hbel, Nat.le_trans hN hbel.size, fun h => p0 (by simpa [upb] using h), fun h => p1 (by simpa [upb] using h), fun h => p2 (by simpa [upb] using h), fun h => p3 (by simpa [upb] using h), fun h => (by obtain ⟨g, e, hg, u, v, tt, pp⟩ := p4 (by simpa [upb] using h); exact ⟨g, e, hg, u, v, tt.next hbel, fun h => pp (by simpa [upb] using h)⟩), fun h => by have := q6 (by simpa [upb] using h); simpa [upb] using this, fun _ => ⟨_, rfl, hN, _, _, two_alloc _ _ _ _, fun h => absurd (q7 (by simpa [upb] using h)) (by rw [hb]; decide)⟩, fun _ => by simp [upb], fun h1 h2 => (by obtain ⟨g, e, hg, u, v, tt, pp⟩ := p4 (by simpa [upb] using h1); have := tt.2.2.2; rw [e]; simp <;> omega)⟩
  case op6 =>
    rintro bb _ w' ⟨x23, x24, x25, x26, x15, x16, rfl, t7, t8, B, hN, p0, p1, p2, p3, p4, q6, p5, q7, d4_5⟩ hb hd K hK
    simp only [Act.put, List.setIfInBounds_toArray, List.set_cons_zero, List.set_cons_succ]
    have e1 := p1 (hd 1 (by decide))
    subst e1
    obtain ⟨g, eg, hg, u, v, tg, -⟩ := p4 (hd 4 (by decide))
    obtain ⟨g5, eg5, hg5, u5, v5, tg5, pg5⟩ := p5 (hd 5 (by decide))
    have hne5 : g5 ≠ g := fun e => d4_5 (hd 4 (by decide)) (hd 5 (by decide)) (by rw [eg, eg5, e])
    have c1 := tg.1; have c2 := tg.2.1; have c3 := tg.2.2.1
    subst eg
    subst eg5
    rw [if_pos (by rfl)]
    go_simp
    refine hK _ _ ⟨x23, .agg #[.int .i64 a, .int .i64 b'], x25, x26, .pointer (some ⟨g, 0, none⟩), .pointer (some ⟨g5, 0, none⟩), by simp only [Act.put, List.setIfInBounds_toArray, List.set_cons_zero, List.set_cons_succ], t7.other (by omega) _ _, t8.other (by omega) _ _, (B.setCell (by simp; omega) _).setCell (by simp; omega) _, by simpa using hN, fun h => p0 (by simpa [upb] using h), fun h => p1 (by simpa [upb] using h), fun h => p2 (by simpa [upb] using h), fun h => p3 (by simpa [upb] using h), fun _ => ⟨g, rfl, hg, _, _, tg.store _ _, fun _ => ⟨rfl, rfl⟩⟩, fun _ => by simpa [upb] using hd 4 (by decide), fun h => ⟨g5, rfl, hg5, u5, v5, tg5.other hne5 _ _, fun h => pg5 (by simpa [upb] using h)⟩, fun h => by have := q7 (by simpa [upb] using h); simpa [upb] using this, fun h1 h2 => d4_5 (by simpa [upb] using h1) (by simpa [upb] using h2)⟩
  case op7 =>
    rintro bb _ w' ⟨x23, x24, x25, x26, x15, x16, rfl, t7, t8, B, hN, p0, p1, p2, p3, p4, q6, p5, q7, d4_5⟩ hb hd K hK
    simp only [Act.put, List.setIfInBounds_toArray, List.set_cons_zero, List.set_cons_succ]
    have e3 := p3 (hd 3 (by decide))
    subst e3
    obtain ⟨g, eg, hg, u, v, tg, -⟩ := p5 (hd 5 (by decide))
    obtain ⟨g4, eg4, hg4, u4, v4, tg4, pg4⟩ := p4 (hd 4 (by decide))
    have hne4 : g4 ≠ g := fun e => d4_5 (hd 4 (by decide)) (hd 5 (by decide)) (by rw [eg, eg4, e])
    have c1 := tg.1; have c2 := tg.2.1; have c3 := tg.2.2.1
    subst eg
    subst eg4
    rw [if_pos (by rfl)]
    go_simp
    refine hK _ _ ⟨x23, x24, x25, .agg #[.int .i64 c, .int .i64 d], .pointer (some ⟨g4, 0, none⟩), .pointer (some ⟨g, 0, none⟩), by simp only [Act.put, List.setIfInBounds_toArray, List.set_cons_zero, List.set_cons_succ], t7.other (by omega) _ _, t8.other (by omega) _ _, (B.setCell (by simp; omega) _).setCell (by simp; omega) _, by simpa using hN, fun h => p0 (by simpa [upb] using h), fun h => p1 (by simpa [upb] using h), fun h => p2 (by simpa [upb] using h), fun h => p3 (by simpa [upb] using h), fun h => ⟨g4, rfl, hg4, u4, v4, tg4.other hne4 _ _, fun h => pg4 (by simpa [upb] using h)⟩, fun h => by have := q6 (by simpa [upb] using h); simpa [upb] using this, fun _ => ⟨g, rfl, hg, _, _, tg.store _ _, fun _ => ⟨rfl, rfl⟩⟩, fun _ => by simpa [upb] using hd 5 (by decide), fun h1 h2 => d4_5 (by simpa [upb] using h1) (by simpa [upb] using h2)⟩
  case done =>
    rintro bb _ w' hb ⟨x23, x24, x25, x26, x15, x16, rfl, t7, t8, B, hN, p0, p1, p2, p3, p4, q6, p5, q7, d4_5⟩
    obtain ⟨g, rfl, hg, u, v, tg, pg⟩ := p4 (hb 4 (by decide))
    obtain ⟨rfl, rfl⟩ := pg (hb 6 (by decide))
    obtain ⟨h, rfl, hh, u, v, th, ph⟩ := p5 (hb 5 (by decide))
    obtain ⟨rfl, rfl⟩ := ph (hb 7 (by decide))
    clear p4 p5 pg ph q6 q7 d4_5 p0 p1 p2 p3 hb k7 k8 k0 kb1 kb2
    simp only [Act.put, List.setIfInBounds_toArray, List.set_cons_zero, List.set_cons_succ]
    have r0a := t7.1; have r0b := t7.2.1; have r0z := t7.2.2.2
    have r1a := t8.1; have r1b := t8.2.1; have r1z := t8.2.2.2
    have r2a := tg.1; have r2b := tg.2.1; have r2z := tg.2.2.2
    have r3a := th.1; have r3b := th.2.1; have r3z := th.2.2.2
    go_wp2_with fail
    refine (kt _).mono ?_; rintro e w1 ⟨rfl, hbl⟩
    replace B := bnext B (by have := B.size; omega) hbl
    replace t7 := t7.next hbl; replace t8 := t8.next hbl; replace tg := tg.next hbl; replace th := th.next hbl
    clear r0a r0b r0z r1a r1b r1z r2a r2b r2z r3a r3b r3z kt hbl
    have r0a := t7.1; have r0b := t7.2.1; have r0z := t7.2.2.2
    have r1a := t8.1; have r1b := t8.2.1; have r1z := t8.2.2.2
    have r2a := tg.1; have r2b := tg.2.1; have r2z := tg.2.2.2
    have r3a := th.1; have r3b := th.2.1; have r3z := th.2.2.2
    go_wp2_with fail
    refine (ktR _).mono ?_; rintro e w2 ⟨rfl, hbl⟩
    have hal : Below w1.heap.size w1 (w1.alloc (.cells #[.int .i32 (twX a b' c d s), .int .i32 (twY a b' c d s)] 44)) := (Below.refl _ _).alloc (Nat.le_refl _) _
    replace B := bnext (bnext B (by have := B.size; omega) hal) (by have := B.size; simp <;> omega) hbl
    replace t7 := (t7.next hal).next hbl; replace t8 := (t8.next hal).next hbl; replace tg := (tg.next hal).next hbl; replace th := (th.next hal).next hbl
    have t17 := (two_alloc _ _ _ _).next hbl
    have hk : w.heap.size + 2 ≤ w1.heap.size := by have := th.2.2.2; omega
    clear r0a r0b r0z r1a r1b r1z r2a r2b r2z r3a r3b r3z ktR hbl hal
    have hal : Below w2.heap.size w2 (w2.alloc (.cells #[.int .i64 (twX a b' c d s), .int .i64 (twY a b' c d s)] 46)) := (Below.refl _ _).alloc (Nat.le_refl _) _
    generalize w1.heap.size = k at *
    have r0a := t7.1; have r0b := t7.2.1; have r0z := t7.2.2.2
    have r1a := t8.1; have r1b := t8.2.1; have r1z := t8.2.2.2
    have r2a := tg.1; have r2b := tg.2.1; have r2z := tg.2.2.2
    have r3a := th.1; have r3b := th.2.1; have r3z := th.2.2.2
    have r4a := t17.1; have r4b := t17.2.1; have r4z := t17.2.2.2
    go_wp2_with fail
    clear r0a r0b r0z r1a r1b r1z r2a r2b r2z r3a r3b r3z r4a r4b r4z 
    have hj : w.heap.size + 2 ≤ w2.heap.size := by have := th.2.2.2; omega
    have t19 := two_alloc w2 (.int .i64 (twX a b' c d s)) (.int .i64 (twY a b' c d s)) 46
    replace B := bnext B (by have := B.size; omega) hal
    replace t7 := t7.next hal; replace t8 := t8.next hal; replace tg := tg.next hal; replace th := th.next hal; replace t17 := t17.next hal
    clear hal
    generalize w2.alloc (.cells #[.int .i64 (twX a b' c d s), .int .i64 (twY a b' c d s)] 46) = w3 at *
    generalize w2.heap.size = j at *
    have q0a := fun D O => cell_regrown t7.1 D O; have q0b := fun D O => cell_regrown t7.2.1 D O
    have q1a := fun D O => cell_regrown t8.1 D O; have q1b := fun D O => cell_regrown t8.2.1 D O
    have q2a := fun D O => cell_regrown tg.1 D O; have q2b := fun D O => cell_regrown tg.2.1 D O
    have q3a := fun D O => cell_regrown th.1 D O; have q3b := fun D O => cell_regrown th.2.1 D O
    have q4a := fun D O => cell_regrown t17.1 D O; have q4b := fun D O => cell_regrown t17.2.1 D O
    have q5a := fun D O => cell_regrown t19.1 D O; have q5b := fun D O => cell_regrown t19.2.1 D O
    have cb : ∀ W, Calls Try.prog 14 #[.agg #[.int .i32 (twX a b' c d s), .int .i32 (twY a b' c d s)]] W fun e w' => e = .returned (.agg #[.int .i64 (twX a b' c d s), .int .i64 (twY a b' c d s)]) ∧ Below W.heap.size W w' := fun W => back_any (twX a b' c d s) (twY a b' c d s) (by have := twX_range a b' c d s; omega) (by have := twY_range a b' c d s; omega) W
    have hfb := farI_bound a b' c d
    refine wp_region_quiet_below (by kernel_rfl) (by kernel_rfl) ?_
    repeat (go_big_quiet_step (first | (go_at_call 17; exact Calls.regrown_of (far_any _ _ _ _ _)) | (go_at_call 18; exact Calls.regrown_of (farR_any _ _ _ _ _)) | (go_at_call 14; exact Calls.regrown_of (cb _))))
    refine wpQuiet_nil ?_
    intro _ hw'
    obtain ⟨⟨dq, osq⟩, hw''⟩ := hw'
    subst hw''
    have hal := below_regrown w3 dq osq
    replace B := bstep B hal
    replace t7 := t7.next hal; replace t8 := t8.next hal; replace tg := tg.next hal; replace th := th.next hal
    clear hal q0a q0b q1a q1b q2a q2b q3a q3b q4a q4b q5a q5b t17 t19 cb hfb
    generalize grow (redrawn w3 dq) osq = w4 at *
    have rt7a := t7.1; have rt7b := t7.2.1; have rt7c := t7.2.2.1; have rt7z := t7.2.2.2
    have rt8a := t8.1; have rt8b := t8.2.1; have rt8c := t8.2.2.1; have rt8z := t8.2.2.2
    have rtga := tg.1; have rtgb := tg.2.1; have rtgc := tg.2.2.1; have rtgz := tg.2.2.2
    have rtha := th.1; have rthb := th.2.1; have rthc := th.2.2.1; have rthz := th.2.2.2
    go_upto_region 7 with fail
    clear rt7a rt7b rt7c rt7z rt8a rt8b rt8c rt8z rtga rtgb rtgc rtgz rtha rthb rthc rthz
    have hj21 : w.heap.size + 2 ≤ w4.heap.size := by have := th.2.2.2; omega
    have hjg : g < w4.heap.size := tg.2.2.2
    have hjh : h < w4.heap.size := th.2.2.2
    have t21 := two_alloc w4 (.int .i64 0) (.int .i64 0) 46
    replace t7 := t7.allocd (.cells #[.int .i64 0, .int .i64 0] 46)
    replace t8 := t8.allocd (.cells #[.int .i64 0, .int .i64 0] 46)
    replace tg := tg.allocd (.cells #[.int .i64 0, .int .i64 0] 46)
    replace th := th.allocd (.cells #[.int .i64 0, .int .i64 0] 46)
    replace B : Below w.heap.size w (w4.alloc (.cells #[.int .i64 0, .int .i64 0] 46)) := B.alloc B.size _
    generalize w4.alloc (.cells #[.int .i64 0, .int .i64 0] 46) = w5 at *
    generalize w4.heap.size = j21 at *
    go_cut [67] from 23 (fun s67 wc => s67 = .bool (mayB a b' && mayB c d) ∧ Two wc (w.heap.size) (.int .i32 a) (.int .i32 b') ∧ Two wc (w.heap.size + 1) (.int .i32 c) (.int .i32 d) ∧ Two wc (g) (.int .i64 a) (.int .i64 b') ∧ Two wc (h) (.int .i64 c) (.int .i64 d) ∧ Two wc (j21) (.int .i64 0) (.int .i64 0) ∧ Below w.heap.size w wc)
    case first =>
      cases m1 : mayB a b'
      · have rt7a := t7.1; have rt7b := t7.2.1; have rt7c := t7.2.2.1; have rt7z := t7.2.2.2
        have rt8a := t8.1; have rt8b := t8.2.1; have rt8c := t8.2.2.1; have rt8z := t8.2.2.2
        have rtga := tg.1; have rtgb := tg.2.1; have rtgc := tg.2.2.1; have rtgz := tg.2.2.2
        have rtha := th.1; have rthb := th.2.1; have rthc := th.2.2.1; have rthz := th.2.2.2
        have rt21a := t21.1; have rt21b := t21.2.1; have rt21c := t21.2.2.1; have rt21z := t21.2.2.2
        go_wp2_with fail
        clear rt7a rt7b rt7c rt7z rt8a rt8b rt8c rt8z rtga rtgb rtgc rtgz rtha rthb rthc rthz rt21a rt21b rt21c rt21z
        refine (mayR_any _ _ _).mono ?_; rintro e w6 ⟨rfl, hbl⟩
        replace t7 := t7.next hbl
        replace t8 := t8.next hbl
        replace tg := tg.next hbl
        replace th := th.next hbl
        replace t21 := t21.next hbl
        replace B : Below w.heap.size w w6 := bstep B hbl
        clear hbl
        go_wp2_with fail
        go_meet
        exact ⟨by simp [m1], t7, t8, tg, th, t21, B⟩
      · cases m2 : mayB c d
        all_goals
          have rt7a := t7.1; have rt7b := t7.2.1; have rt7c := t7.2.2.1; have rt7z := t7.2.2.2
          have rt8a := t8.1; have rt8b := t8.2.1; have rt8c := t8.2.2.1; have rt8z := t8.2.2.2
          have rtga := tg.1; have rtgb := tg.2.1; have rtgc := tg.2.2.1; have rtgz := tg.2.2.2
          have rtha := th.1; have rthb := th.2.1; have rthc := th.2.2.1; have rthz := th.2.2.2
          have rt21a := t21.1; have rt21b := t21.2.1; have rt21c := t21.2.2.1; have rt21z := t21.2.2.2
          go_wp2_with fail
          clear rt7a rt7b rt7c rt7z rt8a rt8b rt8c rt8z rtga rtgb rtgc rtgz rtha rthb rthc rthz rt21a rt21b rt21c rt21z
          refine (mayR_any _ _ _).mono ?_; rintro e w6 ⟨rfl, hbl⟩
          replace t7 := t7.next hbl
          replace t8 := t8.next hbl
          replace tg := tg.next hbl
          replace th := th.next hbl
          replace t21 := t21.next hbl
          replace B : Below w.heap.size w w6 := bstep B hbl
          clear hbl
          have rt7a := t7.1; have rt7b := t7.2.1; have rt7c := t7.2.2.1; have rt7z := t7.2.2.2
          have rt8a := t8.1; have rt8b := t8.2.1; have rt8c := t8.2.2.1; have rt8z := t8.2.2.2
          have rtga := tg.1; have rtgb := tg.2.1; have rtgc := tg.2.2.1; have rtgz := tg.2.2.2
          have rtha := th.1; have rthb := th.2.1; have rthc := th.2.2.1; have rthz := th.2.2.2
          have rt21a := t21.1; have rt21b := t21.2.1; have rt21c := t21.2.2.1; have rt21z := t21.2.2.2
          go_wp2_with fail
          clear rt7a rt7b rt7c rt7z rt8a rt8b rt8c rt8z rtga rtgb rtgc rtgz rtha rthb rthc rthz rt21a rt21b rt21c rt21z
          refine (mayR_any _ _ _).mono ?_; rintro e w7 ⟨rfl, hbl⟩
          replace t7 := t7.next hbl
          replace t8 := t8.next hbl
          replace tg := tg.next hbl
          replace th := th.next hbl
          replace t21 := t21.next hbl
          replace B : Below w.heap.size w w7 := bstep B hbl
          clear hbl
          go_wp2_with fail
          go_meet
          exact ⟨by simp [m1, m2], t7, t8, tg, th, t21, B⟩
    case rest =>
      obtain ⟨rfl, t7, t8, tg, th, t21, B⟩ := hcut
      generalize hmm : (mayB a b' && mayB c d) = mm at *
      go_upto_if 67 with fail
      go_cut [67] from 23 (fun _ wc => Two wc (w.heap.size) (.int .i32 a) (.int .i32 b') ∧ Two wc (w.heap.size + 1) (.int .i32 c) (.int .i32 d) ∧ Two wc (g) (.int .i64 a) (.int .i64 b') ∧ Two wc (h) (.int .i64 c) (.int .i64 d) ∧ Two wc (j21) (.int .i64 (btX a b' c d p n)) (.int .i64 (btY a b' c d p n)) ∧ Below w.heap.size w wc)
      case first =>
        cases mm
        · have eX := Lib.hid (show btX a b' c d p n = 0 by unfold btX; rw [hmm]; rfl)
          have eY := Lib.hid (show btY a b' c d p n = 0 by unfold btY; rw [hmm]; rfl)
          go_wp2_with fail
          go_meet
          rw [eX.out, eY.out]
          exact ⟨t7, t8, tg, th, t21, B⟩
        · rcases (show (1 ≤ n ∧ n ≤ 1048576 ∧ 0 ≤ p ∧ p ≤ n) ∨ n < 1 ∨ (1 ≤ n ∧ 1048576 < n) ∨ (1 ≤ n ∧ n ≤ 1048576 ∧ p < 0) ∨ (1 ≤ n ∧ n ≤ 1048576 ∧ 0 ≤ p ∧ n < p) by omega) with ⟨z0, z1, z2, z3⟩ | z0 | ⟨z0, z1⟩ | ⟨z0, z1, z2⟩ | ⟨z0, z1, z2, z3⟩
          · have eX := Lib.hid (show btX a b' c d p n = partI a c p n by unfold btX; rw [hmm, if_neg (by decide), if_pos (by omega)])
            have eY := Lib.hid (show btY a b' c d p n = partI b' d p n by unfold btY; rw [hmm, if_neg (by decide), if_pos (by omega)])
            rw [Bool.and_eq_true] at hmm
            have hm1 := mayB_true.1 hmm.1
            have hm2 := mayB_true.1 hmm.2
            have kmv := fun W => movedR_any a b' c d p n W (by omega) (by omega) (by omega) (by omega) (by omega) (by omega) (by omega)
            clear hm1 hm2
            have rt7a := t7.1; have rt7b := t7.2.1; have rt7c := t7.2.2.1; have rt7z := t7.2.2.2
            have rt8a := t8.1; have rt8b := t8.2.1; have rt8c := t8.2.2.1; have rt8z := t8.2.2.2
            have rtga := tg.1; have rtgb := tg.2.1; have rtgc := tg.2.2.1; have rtgz := tg.2.2.2
            have rtha := th.1; have rthb := th.2.1; have rthc := th.2.2.1; have rthz := th.2.2.2
            have rt21a := t21.1; have rt21b := t21.2.1; have rt21c := t21.2.2.1; have rt21z := t21.2.2.2
            go_wp2_with fail
            clear rt7a rt7b rt7c rt7z rt8a rt8b rt8c rt8z rtga rtgb rtgc rtgz rtha rthb rthc rthz rt21a rt21b rt21c rt21z
            refine (kmv _).mono ?_; rintro e w7 ⟨rfl, hbl⟩
            replace t7 := (t7.other (by omega) _ _).next hbl
            replace t8 := (t8.other (by omega) _ _).next hbl
            replace tg := (tg.other (by omega) _ _).next hbl
            replace th := (th.other (by omega) _ _).next hbl
            replace t21 := (t21.store _ _).next hbl
            replace B : Below w.heap.size w w7 := bstep ((B.setCell (by simp; omega) _).setCell (by simp; omega) _) hbl
            clear hbl
            have rt7a := t7.1; have rt7b := t7.2.1; have rt7c := t7.2.2.1; have rt7z := t7.2.2.2
            have rt8a := t8.1; have rt8b := t8.2.1; have rt8c := t8.2.2.1; have rt8z := t8.2.2.2
            have rtga := tg.1; have rtgb := tg.2.1; have rtgc := tg.2.2.1; have rtgz := tg.2.2.2
            have rtha := th.1; have rthb := th.2.1; have rthc := th.2.2.1; have rthz := th.2.2.2
            have rt21a := t21.1; have rt21b := t21.2.1; have rt21c := t21.2.2.1; have rt21z := t21.2.2.2
            go_wp2_with fail
            clear rt7a rt7b rt7c rt7z rt8a rt8b rt8c rt8z rtga rtgb rtgc rtgz rtha rthb rthc rthz rt21a rt21b rt21c rt21z
            go_meet
            rw [eX.out, eY.out]
            exact ⟨t7.other (by omega) _ _, t8.other (by omega) _ _, tg.other (by omega) _ _, th.other (by omega) _ _, t21.store _ _, (B.setCell (by simp; omega) _).setCell (by simp; omega) _⟩
          all_goals
            have eX := Lib.hid (show btX a b' c d p n = a by unfold btX; rw [hmm, if_neg (by decide), if_neg (by omega)])
            have eY := Lib.hid (show btY a b' c d p n = b' by unfold btY; rw [hmm, if_neg (by decide), if_neg (by omega)])
            have rt7a := t7.1; have rt7b := t7.2.1; have rt7c := t7.2.2.1; have rt7z := t7.2.2.2
            have rt8a := t8.1; have rt8b := t8.2.1; have rt8c := t8.2.2.1; have rt8z := t8.2.2.2
            have rtga := tg.1; have rtgb := tg.2.1; have rtgc := tg.2.2.1; have rtgz := tg.2.2.2
            have rtha := th.1; have rthb := th.2.1; have rthc := th.2.2.1; have rthz := th.2.2.2
            have rt21a := t21.1; have rt21b := t21.2.1; have rt21c := t21.2.2.1; have rt21z := t21.2.2.2
            go_wp2_with fail
            clear rt7a rt7b rt7c rt7z rt8a rt8b rt8c rt8z rtga rtgb rtgc rtgz rtha rthb rthc rthz rt21a rt21b rt21c rt21z
            go_meet
            rw [eX.out, eY.out]
            exact ⟨t7.other (by omega) _ _, t8.other (by omega) _ _, tg.other (by omega) _ _, th.other (by omega) _ _, t21.store _ _, (B.setCell (by simp; omega) _).setCell (by simp; omega) _⟩
      case rest =>
        obtain ⟨t7, t8, tg, th, t21, B⟩ := hcut
        have kbt := fun W => between_any a b' c d p n W
        have kbw := fun W => back_any (btX a b' c d p n) (btY a b' c d p n) (by have := btX_range a b' c d p n; omega) (by have := btY_range a b' c d p n; omega) W
        rcases (show (0 ≤ x ∧ x < 64 ∧ 0 ≤ y ∧ y < 64) ∨ x < 0 ∨ (0 ≤ x ∧ 64 ≤ x) ∨ (0 ≤ x ∧ x < 64 ∧ y < 0) ∨ (0 ≤ x ∧ x < 64 ∧ 0 ≤ y ∧ 64 ≤ y) by omega) with ⟨y0, y1, y2, y3⟩ | y0 | ⟨y0, y1⟩ | ⟨y0, y1, y2⟩ | ⟨y0, y1, y2, y3⟩
        · have eX : mdX x y = (256 * x + 128) := by unfold mdX; rw [if_pos (by omega)]; omega
          have eY : mdX y x = (256 * y + 128) := by unfold mdX; rw [if_pos (by omega)]; omega
          have kmd := fun W => middle_any x y W
          have kbm := fun W => back_any (mdX x y) (mdX y x) (by have := mdX_range x y; omega) (by have := mdX_range y x; omega) W
          simp only [eX, eY] at kmd kbm
          clear eX eY
          have rt7a := t7.1; have rt7b := t7.2.1; have rt7c := t7.2.2.1; have rt7z := t7.2.2.2
          have rt8a := t8.1; have rt8b := t8.2.1; have rt8c := t8.2.2.1; have rt8z := t8.2.2.2
          have rtga := tg.1; have rtgb := tg.2.1; have rtgc := tg.2.2.1; have rtgz := tg.2.2.2
          have rtha := th.1; have rthb := th.2.1; have rthc := th.2.2.1; have rthz := th.2.2.2
          have rt21a := t21.1; have rt21b := t21.2.1; have rt21c := t21.2.2.1; have rt21z := t21.2.2.2
          go_wp2_with fail
          clear rt7a rt7b rt7c rt7z rt8a rt8b rt8c rt8z rtga rtgb rtgc rtgz rtha rthb rthc rthz rt21a rt21b rt21c rt21z
          have hl22 : w.heap.size + 2 ≤ wc.heap.size := by have := t21.2.2.2; omega
          refine gen4 (W := w) (g1 := w.heap.size) (p1 := .int .i32 a) (q1 := .int .i32 b') (g2 := w.heap.size + 1) (p2 := .int .i32 c) (q2 := .int .i32 d) (g3 := j21) (p3 := .int .i64 (btX a b' c d p n)) (q3 := .int .i64 (btY a b' c d p n)) (g4 := wc.heap.size) (p4 := .int .i64 (256 * x + 128)) (q4 := .int .i64 (256 * y + 128)) (t7.allocd _) (t8.allocd _) (t21.allocd _) (two_alloc' _ _ _ _ _ rfl) (B.alloc B.size _) ?_
          intro W c7 c8 c21 c22 BW
          clear B t7 t8 tg th t21
          have hW0 := btX_range a b' c d p n; have hW1 := btY_range a b' c d p n
          clear kbw kbm
          have hM0 : 0 ≤ 256 * x + 128 ∧ 256 * x + 128 ≤ 16384 := by omega
          have hM1 : 0 ≤ 256 * y + 128 ∧ 256 * y + 128 ≤ 16384 := by omega
          generalize btX a b' c d p n = W0 at *
          generalize btY a b' c d p n = W1 at *
          generalize 256 * x + 128 = M0 at *
          generalize 256 * y + 128 = M1 at *
          have qc7a := fun D O => cell_regrown c7.1 D O; have qc7b := fun D O => cell_regrown c7.2.1 D O
          have qc8a := fun D O => cell_regrown c8.1 D O; have qc8b := fun D O => cell_regrown c8.2.1 D O
          have qc21a := fun D O => cell_regrown c21.1 D O; have qc21b := fun D O => cell_regrown c21.2.1 D O
          have qc22a := fun D O => cell_regrown c22.1 D O; have qc22b := fun D O => cell_regrown c22.2.1 D O
          refine wp_region_quiet_below (by kernel_rfl) (by kernel_rfl) ?_
          repeat (go_big_quiet_step (first | (go_at_call 21; exact Calls.regrown_of (kbt _)) | (go_at_call 22; exact Calls.regrown_of (kmd _)) | (go_at_call 14; exact Calls.regrown_of (back_any _ _ (by omega) (by omega) _)) | (go_at_call 23; exact Calls.regrown_of (wakes_true _))))
          refine wpQuiet_nil ?_
          intro _ hw'
          obtain ⟨⟨dq, osq⟩, hw''⟩ := hw'
          subst hw''
          go_wp2_with fail
          go_ret
          exact ⟨rfl, bstep BW (below_regrown _ _ _)⟩
        all_goals
          have eX : mdX x y = 0 := by unfold mdX; rw [if_neg (by omega)]
          have eY : mdX y x = 0 := by unfold mdX; rw [if_neg (by omega)]
          have kmd := fun W => middle_any x y W
          have kbm := fun W => back_any (mdX x y) (mdX y x) (by have := mdX_range x y; omega) (by have := mdX_range y x; omega) W
          simp only [eX, eY] at kmd kbm
          clear eX eY
          have rt7a := t7.1; have rt7b := t7.2.1; have rt7c := t7.2.2.1; have rt7z := t7.2.2.2
          have rt8a := t8.1; have rt8b := t8.2.1; have rt8c := t8.2.2.1; have rt8z := t8.2.2.2
          have rtga := tg.1; have rtgb := tg.2.1; have rtgc := tg.2.2.1; have rtgz := tg.2.2.2
          have rtha := th.1; have rthb := th.2.1; have rthc := th.2.2.1; have rthz := th.2.2.2
          have rt21a := t21.1; have rt21b := t21.2.1; have rt21c := t21.2.2.1; have rt21z := t21.2.2.2
          go_wp2_with fail
          clear rt7a rt7b rt7c rt7z rt8a rt8b rt8c rt8z rtga rtgb rtgc rtgz rtha rthb rthc rthz rt21a rt21b rt21c rt21z
          have hl22 : w.heap.size + 2 ≤ wc.heap.size := by have := t21.2.2.2; omega
          refine gen4 (W := w) (g1 := w.heap.size) (p1 := .int .i32 a) (q1 := .int .i32 b') (g2 := w.heap.size + 1) (p2 := .int .i32 c) (q2 := .int .i32 d) (g3 := j21) (p3 := .int .i64 (btX a b' c d p n)) (q3 := .int .i64 (btY a b' c d p n)) (g4 := wc.heap.size) (p4 := .int .i64 0) (q4 := .int .i64 0) (t7.allocd _) (t8.allocd _) (t21.allocd _) (two_alloc' _ _ _ _ _ rfl) (B.alloc B.size _) ?_
          intro W c7 c8 c21 c22 BW
          clear B t7 t8 tg th t21
          have hW0 := btX_range a b' c d p n; have hW1 := btY_range a b' c d p n
          clear kbw kbm
          generalize btX a b' c d p n = W0 at *
          generalize btY a b' c d p n = W1 at *
          have qc7a := fun D O => cell_regrown c7.1 D O; have qc7b := fun D O => cell_regrown c7.2.1 D O
          have qc8a := fun D O => cell_regrown c8.1 D O; have qc8b := fun D O => cell_regrown c8.2.1 D O
          have qc21a := fun D O => cell_regrown c21.1 D O; have qc21b := fun D O => cell_regrown c21.2.1 D O
          have qc22a := fun D O => cell_regrown c22.1 D O; have qc22b := fun D O => cell_regrown c22.2.1 D O
          refine wp_region_quiet_below (by kernel_rfl) (by kernel_rfl) ?_
          repeat (go_big_quiet_step (first | (go_at_call 21; exact Calls.regrown_of (kbt _)) | (go_at_call 22; exact Calls.regrown_of (kmd _)) | (go_at_call 14; exact Calls.regrown_of (back_any _ _ (by omega) (by omega) _)) | (go_at_call 23; exact Calls.regrown_of (wakes_true _))))
          refine wpQuiet_nil ?_
          intro _ hw'
          obtain ⟨⟨dq, osq⟩, hw''⟩ := hw'
          subst hw''
          go_wp2_with fail
          go_ret
          exact ⟨rfl, bstep BW (below_regrown _ _ _)⟩
end Go.Proofs.Ytfdbibddhneklab
