/- The walk of the document's Toward. No condition. -/
import Derived.Test.YtfdbibddhneklabF6
namespace Go.Proofs.Ytfdbibddhneklab
open Go.RowKit RootP
set_option maxRecDepth 100000 in
theorem towardR_no (a b c d s : Int) (h : (mayB a b && mayB c d) = false) (w : World) : Calls Try.prog 16 #[.agg #[.int .i64 a, .int .i64 b], .agg #[.int .i64 c, .int .i64 d], .int .i64 s] w fun e w' => e = .returned (.tuple #[.agg #[.int .i64 0, .int .i64 0], .bool false]) ∧ Below w.heap.size w w' := by
  cases h1 : mayB a b
  · clear h
    go_enter Try.func16, Try.ntmps16
    go_wp2_with fail
    refine (mayR_any _ _ _).mono ?_; rintro e w1 ⟨rfl, hb⟩
    obtain ⟨H, hz0, hz1, hz2⟩ := below3 hb
    obtain ⟨hc, hf⟩ := bcell hb
    clear hb
    go_wp2_with fail
    exact bodyPost_ret (v := .tuple #[.agg #[.int .i64 0, .int .i64 0], .bool false]) (by simp [results, Try.results16, go_sem, hc]) rfl ⟨rfl, (H.setCell (by simp; omega) _).setCell (by simp; omega) _⟩
  · have h2 : mayB c d = false := by rw [h1] at h; simpa using h
    clear h
    go_enter Try.func16, Try.ntmps16
    go_wp2_with fail
    refine (mayR_any _ _ _).mono ?_; rintro e w1 ⟨rfl, hb⟩
    obtain ⟨H, hz0, hz1, hz2⟩ := below3 hb
    obtain ⟨hc, hf⟩ := bcell hb
    clear hb
    go_wp2_with fail
    refine (mayR_any _ _ _).mono ?_; rintro e w2 ⟨rfl, hb⟩
    replace H := bnext H (Nat.le_refl _) hb
    obtain ⟨hc2, hf2⟩ := bcell hb
    clear hb
    go_wp2_with fail
    exact bodyPost_ret (v := .tuple #[.agg #[.int .i64 0, .int .i64 0], .bool false]) (by simp [results, Try.results16, go_sem, hc, hc2, hz2]) rfl ⟨rfl, (H.setCell (by simp; omega) _).setCell (by simp; omega) _⟩
theorem towardR_bad (a b c d s : Int) (h1 : mayB a b = true) (h2 : mayB c d = true) (hs : s < 1 ∨ 256 < s) (w : World) : Calls Try.prog 16 #[.agg #[.int .i64 a, .int .i64 b], .agg #[.int .i64 c, .int .i64 d], .int .i64 s] w fun e w' => e = .returned (.tuple #[.agg #[.int .i64 a, .int .i64 b], .bool false]) ∧ Below w.heap.size w w' := by
  have hs2 := Lib.hid hs
  clear hs
  by_cases g : s < 1
  all_goals
    have g2 : ¬ s < 1 → 256 < s := fun h => hs2.out.resolve_left h
    try have g3 := g2 g
    clear g2
    go_enter Try.func16, Try.ntmps16
    go_wp2_with fail
    refine (mayR_any _ _ _).mono ?_; rintro e w1 ⟨rfl, hb⟩
    obtain ⟨H, hz0, hz1, hz2⟩ := below3 hb
    obtain ⟨hc, hf⟩ := bcell hb
    clear hb
    go_wp2_with fail
    refine (mayR_any _ _ _).mono ?_; rintro e w2 ⟨rfl, hb⟩
    have hz3 := Nat.lt_of_lt_of_le hz2 hb.size
    have hz4 := Nat.lt_of_lt_of_le hz1 hb.size
    have hz5 := Nat.lt_of_lt_of_le hz0 hb.size
    replace H := bnext H (Nat.le_refl _) hb
    obtain ⟨hc2, hf2⟩ := bcell hb
    clear hb
    go_wp2_with fail
    exact bodyPost_ret (v := .tuple #[.agg #[.int .i64 a, .int .i64 b], .bool false]) (by simp [results, Try.results16, go_sem, hc, hc2, hz2]) rfl ⟨rfl, (H.setCell (by simp; omega) _).setCell (by simp; omega) _⟩
set_option maxRecDepth 100000 in
theorem towardR_there (a b c d s : Int) (h1 : mayB a b = true) (h2 : mayB c d = true) (hs : 1 ≤ s ∧ s ≤ 256) (hfar : farI a b c d ≤ s) (w : World) : Calls Try.prog 16 #[.agg #[.int .i64 a, .int .i64 b], .agg #[.int .i64 c, .int .i64 d], .int .i64 s] w fun e w' => e = .returned (.tuple #[.agg #[.int .i64 c, .int .i64 d], .bool true]) ∧ Below w.heap.size w w' := by
  have g1 : ¬ s < 1 := by omega
  have g2 : ¬ 256 < s := by omega
  go_enter Try.func16, Try.ntmps16
  go_wp2_with fail
  refine (mayR_any _ _ _).mono ?_; rintro e w1 ⟨rfl, hb⟩
  obtain ⟨H, hz0, hz1, hz2⟩ := below3 hb
  obtain ⟨hc, hf⟩ := bcell hb
  clear hb
  go_wp2_with fail
  refine (mayR_any _ _ _).mono ?_; rintro e w2 ⟨rfl, hb⟩
  have hz3 := Nat.lt_of_lt_of_le hz2 hb.size
  have hz4 := Nat.lt_of_lt_of_le hz1 hb.size
  have hz5 := Nat.lt_of_lt_of_le hz0 hb.size
  replace H := bnext H (Nat.le_refl _) hb
  obtain ⟨hc2, hf2⟩ := bcell hb
  clear hb
  go_wp2_with fail
  refine (farR_any _ _ _ _ _).mono ?_; rintro e w3 ⟨rfl, hb⟩
  replace H := bnext H (Nat.le_refl _) hb
  obtain ⟨hc3, hf3⟩ := bcell hb
  clear hb
  go_wp2_with fail
  exact bodyPost_ret (v := .tuple #[.agg #[.int .i64 c, .int .i64 d], .bool true]) (by simp [results, Try.results16, go_sem, hc, hc2, hc3, hz2, hz3]) rfl ⟨rfl, (H.setCell (by simp; omega) _).setCell (by simp; omega) _⟩
set_option maxHeartbeats 4000000 in
set_option maxRecDepth 100000 in
theorem towardR_on (a b' c d s : Int) (h1 : mayB a b' = true) (h2 : mayB c d = true) (hs : 1 ≤ s ∧ s ≤ 256) (hfar : s < farI a b' c d) (w : World) : Calls Try.prog 16 #[.agg #[.int .i64 a, .int .i64 b'], .agg #[.int .i64 c, .int .i64 d], .int .i64 s] w fun e w' => e = .returned (.tuple #[.agg #[.int .i64 (partI a c s (farI a b' c d)), .int .i64 (partI b' d s (farI a b' c d))], .bool false]) ∧ Below w.heap.size w w' := by
  have g1 : ¬ s < 1 := by omega
  have g2 : ¬ 256 < s := by omega
  have hd := (dist_bound a b' c d h1 h2).2
  have hm1 := mayB_true.1 h1
  have hm2 := mayB_true.1 h2
  have hfd : farI a b' c d = dist a b' c d := by unfold farI; rw [h1, h2]; rfl
  have hfl : farI a b' c d ≤ 4194304 := by omega
  clear hd
  have cm := fun w => movedR_any a b' c d s (farI a b' c d) w (by omega) (by omega) (by omega) (by omega) (by omega) (by omega) (by omega)
  have cf := fun w => farR_any a b' c d w
  clear hfd
  go_enter Try.func16, Try.ntmps16
  go_wp2_with fail
  refine (mayR_any _ _ _).mono ?_; rintro e w1 ⟨rfl, hb⟩
  obtain ⟨H, hz0, hz1, hz2⟩ := below3 hb
  obtain ⟨hc, hf⟩ := bcell hb
  clear hb
  go_wp2_with fail
  refine (mayR_any _ _ _).mono ?_; rintro e w2 ⟨rfl, hb⟩
  have hz3 := Nat.lt_of_lt_of_le hz2 hb.size
  have hz4 := Nat.lt_of_lt_of_le hz1 hb.size
  have hz5 := Nat.lt_of_lt_of_le hz0 hb.size
  replace H := bnext H (Nat.le_refl _) hb
  obtain ⟨hc2, hf2⟩ := bcell hb
  clear hb
  go_wp2_with fail
  refine (cf _).mono ?_; rintro e w3 ⟨rfl, hb⟩
  have hz6 := Nat.lt_of_lt_of_le hz3 hb.size
  have hz7 := Nat.lt_of_lt_of_le hz4 hb.size
  have hz8 := Nat.lt_of_lt_of_le hz5 hb.size
  replace H := bnext H (Nat.le_refl _) hb
  obtain ⟨hc3, hf3⟩ := bcell hb
  clear hb
  have k1 : Two w3 w.heap.size (.int .i64 a) (.int .i64 b') := ⟨by simp [hc3, hc2, hc, hz0, hz5, go_sem], by simp [hc3, hc2, hc, hz0, hz5, go_sem], fun o => by simp [hf3, hf2, hf, hz0, hz5, go_sem], hz8⟩
  have k2 : Two w3 (w.heap.size + 1) (.int .i64 c) (.int .i64 d) := ⟨by simp [hc3, hc2, hc, hz1, hz4, go_sem], by simp [hc3, hc2, hc, hz1, hz4, go_sem], fun o => by simp [hf3, hf2, hf, hz1, hz4, go_sem], hz7⟩
  have k3 : Two w3 (w.heap.size + 1 + 1) (.int .i64 0) (.int .i64 0) := ⟨by simp [hc3, hc2, hc, hz2, hz3, go_sem], by simp [hc3, hc2, hc, hz2, hz3, go_sem], fun o => by simp [hf3, hf2, hf, hz2, hz3, go_sem], hz6⟩
  have hz9 := Nat.lt_of_lt_of_le hz6 (Nat.le_refl _)
  clear hc hc2 hc3 hf hf2 hf3
  go_wp2_with fail
  refine wp_region_inv (fun a0 w0 b a' w' => ∃ x30 x31 x32 x33 x34 x35 x36 x7 : Value, a' = ((((((((a0.put (some 30) x30).put (some 31) x31).put (some 32) x32).put (some 33) x33).put (some 34) x34).put (some 35) x35).put (some 36) x36).put (some 7) x7)
        ∧ Two w' (w.heap.size) (.int .i64 a) (.int .i64 b')
        ∧ Two w' (w.heap.size + 1) (.int .i64 c) (.int .i64 d)
        ∧ Below w.heap.size w w'
        ∧ w.heap.size + 3 ≤ w'.heap.size
        ∧ (∃ u v, Two w' (w.heap.size + 1 + 1) u v ∧ (b 7 = true → u = (.int .i64 (partI a c s (farI a b' c d))) ∧ v = (.int .i64 (partI b' d s (farI a b' c d)))))
        ∧ (b 0 = true → x30 = .agg #[.int .i64 a, .int .i64 b'])
        ∧ (b 1 = true → x31 = .agg #[.int .i64 c, .int .i64 d])
        ∧ (b 2 = true → x32 = .int .i64 s)
        ∧ (b 3 = true → x33 = .agg #[.int .i64 a, .int .i64 b'])
        ∧ (b 4 = true → x34 = .agg #[.int .i64 c, .int .i64 d])
        ∧ (b 5 = true → x35 = .int .i64 (farI a b' c d))
        ∧ (b 6 = true → x36 = .agg #[(.int .i64 (partI a c s (farI a b' c d))), (.int .i64 (partI b' d s (farI a b' c d)))])
        ∧ (b 8 = true → x7 = .bool false)) (by kernel_rfl) (by kernel_rfl) ?start ⟨?op0, ?op1, ?op2, ?op3, ?op4, ?op5, ?op6, ?op7, ?op8, trivial⟩ ?done
  case start =>
    exact ⟨_, _, _, _, _, _, _, _, by simp only [Act.put, List.setIfInBounds_toArray, List.set_cons_zero, List.set_cons_succ]; rfl, k1, k2, H.drew, by have := hz6; simp; omega, ⟨_, _, k3, by simp⟩, by simp, by simp, by simp, by simp, by simp, by simp, by simp, by simp⟩
  case op0 =>
    rintro bb _ w' ⟨x30, x31, x32, x33, x34, x35, x36, x7, rfl, t1, t2, B, hN, t3, p0, p1, p2, p3, p4, p5, p6, p8⟩ hb hd K hK
    simp only [Act.put, List.setIfInBounds_toArray, List.set_cons_zero, List.set_cons_succ]
    have c1 := t1.1; have c2 := t1.2.1
    rw [if_pos (by rfl)]
    go_simp
    refine hK _ _ ⟨.agg #[.int .i64 a, .int .i64 b'], x31, x32, x33, x34, x35, x36, x7, by simp only [Act.put, List.setIfInBounds_toArray, List.set_cons_zero, List.set_cons_succ], t1, t2, B, hN, (by obtain ⟨u, v, tt, pp⟩ := t3; exact ⟨u, v, tt, fun h => pp (by simpa [upb] using h)⟩), fun _ => rfl, fun h => p1 (by simpa [upb] using h), fun h => p2 (by simpa [upb] using h), fun h => p3 (by simpa [upb] using h), fun h => p4 (by simpa [upb] using h), fun h => p5 (by simpa [upb] using h), fun h => p6 (by simpa [upb] using h), fun h => p8 (by simpa [upb] using h)⟩
  case op1 =>
    rintro bb _ w' ⟨x30, x31, x32, x33, x34, x35, x36, x7, rfl, t1, t2, B, hN, t3, p0, p1, p2, p3, p4, p5, p6, p8⟩ hb hd K hK
    simp only [Act.put, List.setIfInBounds_toArray, List.set_cons_zero, List.set_cons_succ]
    have c1 := t2.1; have c2 := t2.2.1
    rw [if_pos (by rfl)]
    go_simp
    refine hK _ _ ⟨x30, .agg #[.int .i64 c, .int .i64 d], x32, x33, x34, x35, x36, x7, by simp only [Act.put, List.setIfInBounds_toArray, List.set_cons_zero, List.set_cons_succ], t1, t2, B, hN, (by obtain ⟨u, v, tt, pp⟩ := t3; exact ⟨u, v, tt, fun h => pp (by simpa [upb] using h)⟩), fun h => p0 (by simpa [upb] using h), fun _ => rfl, fun h => p2 (by simpa [upb] using h), fun h => p3 (by simpa [upb] using h), fun h => p4 (by simpa [upb] using h), fun h => p5 (by simpa [upb] using h), fun h => p6 (by simpa [upb] using h), fun h => p8 (by simpa [upb] using h)⟩
  case op2 =>
    rintro bb _ w' ⟨x30, x31, x32, x33, x34, x35, x36, x7, rfl, t1, t2, B, hN, t3, p0, p1, p2, p3, p4, p5, p6, p8⟩ hb hd K hK
    simp only [Act.put, List.setIfInBounds_toArray, List.set_cons_zero, List.set_cons_succ]
    rw [if_pos (by rfl)]
    go_simp
    refine hK _ _ ⟨x30, x31, .int .i64 s, x33, x34, x35, x36, x7, by simp only [Act.put, List.setIfInBounds_toArray, List.set_cons_zero, List.set_cons_succ], t1, t2, B, hN, (by obtain ⟨u, v, tt, pp⟩ := t3; exact ⟨u, v, tt, fun h => pp (by simpa [upb] using h)⟩), fun h => p0 (by simpa [upb] using h), fun h => p1 (by simpa [upb] using h), fun _ => rfl, fun h => p3 (by simpa [upb] using h), fun h => p4 (by simpa [upb] using h), fun h => p5 (by simpa [upb] using h), fun h => p6 (by simpa [upb] using h), fun h => p8 (by simpa [upb] using h)⟩
  case op3 =>
    rintro bb _ w' ⟨x30, x31, x32, x33, x34, x35, x36, x7, rfl, t1, t2, B, hN, t3, p0, p1, p2, p3, p4, p5, p6, p8⟩ hb hd K hK
    simp only [Act.put, List.setIfInBounds_toArray, List.set_cons_zero, List.set_cons_succ]
    have c1 := t1.1; have c2 := t1.2.1
    rw [if_pos (by rfl)]
    go_simp
    refine hK _ _ ⟨x30, x31, x32, .agg #[.int .i64 a, .int .i64 b'], x34, x35, x36, x7, by simp only [Act.put, List.setIfInBounds_toArray, List.set_cons_zero, List.set_cons_succ], t1, t2, B, hN, (by obtain ⟨u, v, tt, pp⟩ := t3; exact ⟨u, v, tt, fun h => pp (by simpa [upb] using h)⟩), fun h => p0 (by simpa [upb] using h), fun h => p1 (by simpa [upb] using h), fun h => p2 (by simpa [upb] using h), fun _ => rfl, fun h => p4 (by simpa [upb] using h), fun h => p5 (by simpa [upb] using h), fun h => p6 (by simpa [upb] using h), fun h => p8 (by simpa [upb] using h)⟩
  case op4 =>
    rintro bb _ w' ⟨x30, x31, x32, x33, x34, x35, x36, x7, rfl, t1, t2, B, hN, t3, p0, p1, p2, p3, p4, p5, p6, p8⟩ hb hd K hK
    simp only [Act.put, List.setIfInBounds_toArray, List.set_cons_zero, List.set_cons_succ]
    have c1 := t2.1; have c2 := t2.2.1
    rw [if_pos (by rfl)]
    go_simp
    refine hK _ _ ⟨x30, x31, x32, x33, .agg #[.int .i64 c, .int .i64 d], x35, x36, x7, by simp only [Act.put, List.setIfInBounds_toArray, List.set_cons_zero, List.set_cons_succ], t1, t2, B, hN, (by obtain ⟨u, v, tt, pp⟩ := t3; exact ⟨u, v, tt, fun h => pp (by simpa [upb] using h)⟩), fun h => p0 (by simpa [upb] using h), fun h => p1 (by simpa [upb] using h), fun h => p2 (by simpa [upb] using h), fun h => p3 (by simpa [upb] using h), fun _ => rfl, fun h => p5 (by simpa [upb] using h), fun h => p6 (by simpa [upb] using h), fun h => p8 (by simpa [upb] using h)⟩
  case op5 =>
    rintro bb _ w' ⟨x30, x31, x32, x33, x34, x35, x36, x7, rfl, t1, t2, B, hN, t3, p0, p1, p2, p3, p4, p5, p6, p8⟩ hb hd K hK
    simp only [Act.put, List.setIfInBounds_toArray, List.set_cons_zero, List.set_cons_succ]
    have e3 := p3 (hd 3 (by decide))
    subst e3
    have e4 := p4 (hd 4 (by decide))
    subst e4
    rw [if_pos (by rfl)]
    go_simp
    refine (cf _).mono ?_; rintro e w4 ⟨rfl, hbel⟩
    try dsimp only
    refine hK _ _ ⟨x30, x31, x32, .agg #[.int .i64 a, .int .i64 b'], .agg #[.int .i64 c, .int .i64 d], .int .i64 (farI a b' c d), x36, x7, by simp only [Act.put, List.setIfInBounds_toArray, List.set_cons_zero, List.set_cons_succ], t1.next hbel, t2.next hbel, bnext B (by have := B.size; omega) hbel, Nat.le_trans hN hbel.size, (by obtain ⟨u, v, tt, pp⟩ := t3; exact ⟨u, v, tt.next hbel, fun h => pp (by simpa [upb] using h)⟩), fun h => p0 (by simpa [upb] using h), fun h => p1 (by simpa [upb] using h), fun h => p2 (by simpa [upb] using h), fun h => p3 (by simpa [upb] using h), fun h => p4 (by simpa [upb] using h), fun _ => rfl, fun h => p6 (by simpa [upb] using h), fun h => p8 (by simpa [upb] using h)⟩
  case op6 =>
    rintro bb _ w' ⟨x30, x31, x32, x33, x34, x35, x36, x7, rfl, t1, t2, B, hN, t3, p0, p1, p2, p3, p4, p5, p6, p8⟩ hb hd K hK
    simp only [Act.put, List.setIfInBounds_toArray, List.set_cons_zero, List.set_cons_succ]
    have e0 := p0 (hd 0 (by decide))
    subst e0
    have e1 := p1 (hd 1 (by decide))
    subst e1
    have e2 := p2 (hd 2 (by decide))
    subst e2
    have e5 := p5 (hd 5 (by decide))
    subst e5
    rw [if_pos (by rfl)]
    go_simp
    refine (cm _).mono ?_; rintro e w4 ⟨rfl, hbel⟩
    try dsimp only
    refine hK _ _ ⟨.agg #[.int .i64 a, .int .i64 b'], .agg #[.int .i64 c, .int .i64 d], .int .i64 s, x33, x34, .int .i64 (farI a b' c d), .agg #[(.int .i64 (partI a c s (farI a b' c d))), (.int .i64 (partI b' d s (farI a b' c d)))], x7, by simp only [Act.put, List.setIfInBounds_toArray, List.set_cons_zero, List.set_cons_succ], t1.next hbel, t2.next hbel, bnext B (by have := B.size; omega) hbel, Nat.le_trans hN hbel.size, (by obtain ⟨u, v, tt, pp⟩ := t3; exact ⟨u, v, tt.next hbel, fun h => pp (by simpa [upb] using h)⟩), fun h => p0 (by simpa [upb] using h), fun h => p1 (by simpa [upb] using h), fun h => p2 (by simpa [upb] using h), fun h => p3 (by simpa [upb] using h), fun h => p4 (by simpa [upb] using h), fun h => p5 (by simpa [upb] using h), fun _ => rfl, fun h => p8 (by simpa [upb] using h)⟩
  case op7 =>
    rintro bb _ w' ⟨x30, x31, x32, x33, x34, x35, x36, x7, rfl, t1, t2, B, hN, t3, p0, p1, p2, p3, p4, p5, p6, p8⟩ hb hd K hK
    simp only [Act.put, List.setIfInBounds_toArray, List.set_cons_zero, List.set_cons_succ]
    have e6 := p6 (hd 6 (by decide))
    subst e6
    obtain ⟨u, v, tg, -⟩ := t3
    have c1 := tg.1; have c2 := tg.2.1; have c3 := tg.2.2.1
    rw [if_pos (by rfl)]
    go_simp
    refine hK _ _ ⟨x30, x31, x32, x33, x34, x35, .agg #[(.int .i64 (partI a c s (farI a b' c d))), (.int .i64 (partI b' d s (farI a b' c d)))], x7, by simp only [Act.put, List.setIfInBounds_toArray, List.set_cons_zero, List.set_cons_succ], t1.other (by omega) _ _, t2.other (by omega) _ _, (B.setCell (by simp; omega) _).setCell (by simp; omega) _, by simpa using hN, ⟨_, _, tg.store _ _, fun _ => ⟨rfl, rfl⟩⟩, fun h => p0 (by simpa [upb] using h), fun h => p1 (by simpa [upb] using h), fun h => p2 (by simpa [upb] using h), fun h => p3 (by simpa [upb] using h), fun h => p4 (by simpa [upb] using h), fun h => p5 (by simpa [upb] using h), fun h => p6 (by simpa [upb] using h), fun h => p8 (by simpa [upb] using h)⟩
  case op8 =>
    rintro bb _ w' ⟨x30, x31, x32, x33, x34, x35, x36, x7, rfl, t1, t2, B, hN, t3, p0, p1, p2, p3, p4, p5, p6, p8⟩ hb hd K hK
    simp only [Act.put, List.setIfInBounds_toArray, List.set_cons_zero, List.set_cons_succ]
    rw [if_pos (by rfl)]
    go_simp
    refine hK _ _ ⟨x30, x31, x32, x33, x34, x35, x36, .bool false, by simp only [Act.put, List.setIfInBounds_toArray, List.set_cons_zero, List.set_cons_succ], t1, t2, B, hN, (by obtain ⟨u, v, tt, pp⟩ := t3; exact ⟨u, v, tt, fun h => pp (by simpa [upb] using h)⟩), fun h => p0 (by simpa [upb] using h), fun h => p1 (by simpa [upb] using h), fun h => p2 (by simpa [upb] using h), fun h => p3 (by simpa [upb] using h), fun h => p4 (by simpa [upb] using h), fun h => p5 (by simpa [upb] using h), fun h => p6 (by simpa [upb] using h), fun _ => rfl⟩
  case done =>
    rintro bb _ w' hb ⟨x30, x31, x32, x33, x34, x35, x36, x7, rfl, t1, t2, B, hN, t3, p0, p1, p2, p3, p4, p5, p6, p8⟩
    have e7 := p8 (hb 8 (by decide)); subst e7
    obtain ⟨u, v, tt, pp⟩ := t3
    obtain ⟨rfl, rfl⟩ := pp (hb 7 (by decide))
    obtain ⟨c1, c2, c3, c4⟩ := tt
    simp only [Act.put, List.setIfInBounds_toArray, List.set_cons_zero, List.set_cons_succ]
    go_wp2_with fail
    exact bodyPost_ret (v := .tuple #[.agg #[.int .i64 _, .int .i64 _], .bool false]) (by simp [results, Try.results16, go_sem, c1, c2]) rfl ⟨rfl, B⟩
end Go.Proofs.Ytfdbibddhneklab
