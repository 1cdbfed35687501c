/- Path: a tile is come to (search.comes). No condition. -/
import Derived.Test.YtkbimhngbdbgdaaSs
namespace Go.Proofs.Ytkbimhngbdbgdaa.PPathFinds
open Go.RowKit Go.Proofs.YtkbimhngbdbgdaaW.PrintWords Go.Proofs.YtkbimhngbdbgdaaW.PrintLast Go.Proofs.YtkbimhngbdbgdaaW.PrintMore
attribute [local go_sem] max2_int min2_int max_two min_two max_three min_three max_four min_four   -- for this text's walks alone
set_option linter.unusedVariables false
set_option linter.unusedSimpArgs false
set_option maxHeartbeats 8000000
set_option maxRecDepth 20000
/-- it was come to before, and no later -/
def cm_skip (F : Int → Option (Int × Int × Bool)) (t gg : Int) : Bool := (F t).isSome && decide (((F t).getD (0, 0, false)).1 ≤ gg)
def cm_l (F : Int → Option (Int × Int × Bool)) (l : List S51) (t gg fv : Int) : List S51 := if cm_skip F t gg = true then l else hp_push l ⟨gg + fv, fv, t⟩
def cm_F (F : Int → Option (Int × Int × Bool)) (t by_ gg : Int) : Int → Option (Int × Int × Bool) := if cm_skip F t gg = true then F else sUp F t (gg, by_, false)
theorem comes_calls (k : Nat) (w W : World) (g : Nat) (q : SP) (v : Value) (l : List S51) (F : Int → Option (Int × Int × Bool)) (t by_ gg d fv : Int) (hfv : (if q.near < d then d - q.near else 0) = fv) (hd : grid_Map_Far.f k q.mw q.mh q.ms t q.goal = some d) (h1 : -1 ≤ d ∧ d ≤ 100000) (h2 : 0 ≤ q.near ∧ q.near ≤ 9223372036854775807)
    (hg : 0 ≤ gg ∧ gg ≤ 1000000) (hl : l.length < 1000000) (H : Ss w W g q v l F) :
    Calls Try.prog 17 #[.pointer (some ⟨g, 0, none⟩), .int .i64 t, .int .i64 by_, .int .i64 gg] W fun e W' => e = .returned (.tuple #[]) ∧ ∃ v', Ss w W' g q v' (cm_l F l t gg fv) (cm_F F t by_ gg) ∧ Fr W W' g q.gm v.ownBlock ∧ Mv W v v' := by
  have hfb : 0 ≤ fv ∧ fv ≤ 100000 := by split at hfv <;> omega
  obtain ⟨a, b, c, is, hr1, hr2, hz, hi⟩ := H.find t
  have hc7 : W.cell? ⟨g, 7, none⟩ = some (.map (some q.gm)) := (blk_cell H.hp.blk 7).trans rfl
  have hsk : cm_skip F t gg = (is && decide (a ≤ gg)) := by unfold cm_skip; rw [hz, hi]
  have hba := below_alloc (Below.refl W.heap.size W) (.cells #[.int .i64 a, .int .i64 b, .bool c] 55)
  have HSb := H.next hba
  have hc8 : (W.alloc (.cells #[.int .i64 a, .int .i64 b, .bool c] 55)).cell? ⟨g, 7, none⟩ = some (.map (some q.gm)) := (blk_cell HSb.hp.blk 7).trans rfl
  obtain ⟨W2, hrun, hS2, hFr2, hB2⟩ := HSb.put t (gg, by_, false)
  simp only at hrun
  have HS2 := Lib.hid hS2
  have HFr := Lib.hid (Fr.trans (Fr.of_below hba g q.gm v.ownBlock) hFr2 (.inl rfl))
  have HBA := Lib.hid hba
  have HH := Lib.hid H
  have HSK := Lib.hid hsk
  have FC := Lib.hid (fun (W' : World) (hb : Below W2.heap.size W2 W') => far_calls k w W' g q v l t d fv hfv hd h1 h2 (HS2.out.hp.next hb))
  have PC := Lib.hid (fun (W' : World) (hb : Below W2.heap.size W2 W') => heap_Push_calls w W' g q v l ⟨gg + fv, fv, t⟩ hl (HS2.out.hp.next hb))
  clear hS2 hFr2 hB2 hba HSb H hz hi hsk hfv hd hr2
  by_cases hcc : is = true ∧ a ≤ gg
  · obtain ⟨rfl, hag⟩ := hcc
    have hl1 : cm_l F l t gg fv = l := by unfold cm_l; rw [HSK.out, if_pos (by simp [hag])]
    have hF1 : cm_F F t by_ gg = F := by unfold cm_F; rw [HSK.out, if_pos (by simp [hag])]
    rw [hl1, hF1]
    have hdg : decide (a ≤ gg) = true := decide_eq_true hag
    go_enter Try.func17, Try.ntmps17
    go_wp2
    first | go_end0 | ((try simp only [Exit.inBlock, Exit.then]); refine bodyPost_ret (results_none rfl _ _ _) rfl ?_)
    exact ⟨rfl, v, HH.out.next HBA.out, Fr.of_below HBA.out _ _ _, Mv.refl _ _⟩
  · have hl1 : cm_l F l t gg fv = hp_push l ⟨gg + fv, fv, t⟩ := by unfold cm_l; rw [HSK.out, if_neg (by simpa using hcc)]
    have hF1 : cm_F F t by_ gg = sUp F t (gg, by_, false) := by unfold cm_F; rw [HSK.out, if_neg (by simpa using hcc)]
    cases is with
    | true =>
      have hdg : decide (a ≤ gg) = false := decide_eq_false (fun h => hcc ⟨rfl, h⟩)
      go_enter Try.func17, Try.ntmps17
      go_wp2
      refine wp_region_inv (fun a0 w_0 b a' w' => ∃ x34 x35 x36 x37 x38 x39 x40 x41 x42 x43 x44 x45 x46 x47 x48 x49 : Value, a' = ((((((((((((((((a0.put (some 34) x34).put (some 35) x35).put (some 36) x36).put (some 37) x37).put (some 38) x38).put (some 39) x39).put (some 40) x40).put (some 41) x41).put (some 42) x42).put (some 43) x43).put (some 44) x44).put (some 45) x45).put (some 46) x46).put (some 47) x47).put (some 48) x48).put (some 49) x49) ∧ (b 15 = false → Below W2.heap.size W2 w') ∧ (b 15 = true → ∃ v', Hp w w' g q v' (hp_push l ⟨gg + fv, fv, t⟩) ∧ KeepBut W2 w' g v.ownBlock ∧ Mv W2 v v') ∧ (b 11 = true → b 7 = true) ∧ (b 15 = true → b 11 = true) ∧ (b 0 = true → x34 = .pointer (some ⟨g, 0, none⟩)) ∧ (b 1 = true → x35 = .pointer (some ⟨g, 0, none⟩)) ∧ (b 2 = true → x36 = .pointer (some ⟨g, 6, none⟩)) ∧ (b 3 = true → x37 = .iface 69 (.pointer (some ⟨g, 6, none⟩))) ∧ (b 4 = true → x38 = .int .i64 gg) ∧ (b 5 = true → x39 = .pointer (some ⟨g, 0, none⟩)) ∧ (b 6 = true → x40 = .int .i64 t) ∧ (b 7 = true → x41 = .int .i64 fv) ∧ (b 8 = true → x42 = .int .i64 (gg + fv)) ∧ (b 9 = true → x43 = .pointer (some ⟨g, 0, none⟩)) ∧ (b 10 = true → x44 = .int .i64 t) ∧ (b 11 = true → x45 = .int .i64 fv) ∧ (b 12 = true → x46 = .int .i64 t) ∧ (b 13 = true → x47 = .agg #[.int .i64 (gg + fv), .int .i64 fv, .int .i64 t]) ∧ (b 14 = true → x48 = .iface 51 (.agg #[.int .i64 (gg + fv), .int .i64 fv, .int .i64 t]))) (by kernel_rfl) (by kernel_rfl) ?start ⟨?op0, ?op1, ?op2, ?op3, ?op4, ?op5, ?op6, ?op7, ?op8, ?op9, ?op10, ?op11, ?op12, ?op13, ?op14, ?op15, trivial⟩ ?done
      case start => exact ⟨_, _, _, _, _, _, _, _, _, _, _, _, _, _, _, _, by simp only [Act.put, List.setIfInBounds_toArray, List.set_cons_zero, List.set_cons_succ]; rfl, fun _ => below_drew1 (Below.refl _ _), fun h => absurd h (by decide), fun h => absurd h (by decide), fun h => absurd h (by decide), fun h => absurd h (by decide), fun h => absurd h (by decide), fun h => absurd h (by decide), fun h => absurd h (by decide), fun h => absurd h (by decide), fun h => absurd h (by decide), fun h => absurd h (by decide), fun h => absurd h (by decide), fun h => absurd h (by decide), fun h => absurd h (by decide), fun h => absurd h (by decide), fun h => absurd h (by decide), fun h => absurd h (by decide), fun h => absurd h (by decide), fun h => absurd h (by decide)⟩
      case op0 =>
        rintro bb _ w' ⟨x34, x35, x36, x37, x38, x39, x40, x41, x42, x43, x44, x45, x46, x47, x48, x49, rfl, B, F0, Q11, Q15, p34, p35, p36, p37, p38, p39, p40, p41, p42, p43, p44, p45, p46, p47, p48⟩ hb hd K hK
        simp only [Act.put, List.setIfInBounds_toArray, List.set_cons_zero, List.set_cons_succ]
        rw [if_pos (by rfl)]
        go_simp
        exact hK _ _ ⟨.pointer (some ⟨g, 0, none⟩), x35, x36, x37, x38, x39, x40, x41, x42, x43, x44, x45, x46, x47, x48, x49, by simp only [Act.put, List.setIfInBounds_toArray, List.set_cons_zero, List.set_cons_succ], fun h => B (by simpa [upb] using h), fun h => F0 (by simpa [upb] using h), fun h => by have h4 := Q11 (by simpa [upb] using h); simp [upb, h4], fun h => by have h4 := Q15 (by simpa [upb] using h); simp [upb, h4], fun _ => rfl, fun h => p35 (by simpa [upb] using h), fun h => p36 (by simpa [upb] using h), fun h => p37 (by simpa [upb] using h), fun h => p38 (by simpa [upb] using h), fun h => p39 (by simpa [upb] using h), fun h => p40 (by simpa [upb] using h), fun h => p41 (by simpa [upb] using h), fun h => p42 (by simpa [upb] using h), fun h => p43 (by simpa [upb] using h), fun h => p44 (by simpa [upb] using h), fun h => p45 (by simpa [upb] using h), fun h => p46 (by simpa [upb] using h), fun h => p47 (by simpa [upb] using h), fun h => p48 (by simpa [upb] using h)⟩
      case op1 =>
        rintro bb _ w' ⟨x34, x35, x36, x37, x38, x39, x40, x41, x42, x43, x44, x45, x46, x47, x48, x49, rfl, B, F0, Q11, Q15, p34, p35, p36, p37, p38, p39, p40, p41, p42, p43, p44, p45, p46, p47, p48⟩ hb hd K hK
        simp only [Act.put, List.setIfInBounds_toArray, List.set_cons_zero, List.set_cons_succ]
        obtain rfl := (p34 (hd 0 (by decide))).symm
        rw [if_pos (by rfl)]
        go_simp
        exact hK _ _ ⟨.pointer (some ⟨g, 0, none⟩), .pointer (some ⟨g, 0, none⟩), x36, x37, x38, x39, x40, x41, x42, x43, x44, x45, x46, x47, x48, x49, by simp only [Act.put, List.setIfInBounds_toArray, List.set_cons_zero, List.set_cons_succ], fun h => B (by simpa [upb] using h), fun h => F0 (by simpa [upb] using h), fun h => by have h4 := Q11 (by simpa [upb] using h); simp [upb, h4], fun h => by have h4 := Q15 (by simpa [upb] using h); simp [upb, h4], fun _ => rfl, fun _ => rfl, fun h => p36 (by simpa [upb] using h), fun h => p37 (by simpa [upb] using h), fun h => p38 (by simpa [upb] using h), fun h => p39 (by simpa [upb] using h), fun h => p40 (by simpa [upb] using h), fun h => p41 (by simpa [upb] using h), fun h => p42 (by simpa [upb] using h), fun h => p43 (by simpa [upb] using h), fun h => p44 (by simpa [upb] using h), fun h => p45 (by simpa [upb] using h), fun h => p46 (by simpa [upb] using h), fun h => p47 (by simpa [upb] using h), fun h => p48 (by simpa [upb] using h)⟩
      case op2 =>
        rintro bb _ w' ⟨x34, x35, x36, x37, x38, x39, x40, x41, x42, x43, x44, x45, x46, x47, x48, x49, rfl, B, F0, Q11, Q15, p34, p35, p36, p37, p38, p39, p40, p41, p42, p43, p44, p45, p46, p47, p48⟩ hb hd K hK
        simp only [Act.put, List.setIfInBounds_toArray, List.set_cons_zero, List.set_cons_succ]
        obtain rfl := (p35 (hd 1 (by decide))).symm
        rw [if_pos (by rfl)]
        go_simp
        exact hK _ _ ⟨x34, .pointer (some ⟨g, 0, none⟩), .pointer (some ⟨g, 6, none⟩), x37, x38, x39, x40, x41, x42, x43, x44, x45, x46, x47, x48, x49, by simp only [Act.put, List.setIfInBounds_toArray, List.set_cons_zero, List.set_cons_succ], fun h => B (by simpa [upb] using h), fun h => F0 (by simpa [upb] using h), fun h => by have h4 := Q11 (by simpa [upb] using h); simp [upb, h4], fun h => by have h4 := Q15 (by simpa [upb] using h); simp [upb, h4], fun h => p34 (by simpa [upb] using h), fun _ => rfl, fun _ => rfl, fun h => p37 (by simpa [upb] using h), fun h => p38 (by simpa [upb] using h), fun h => p39 (by simpa [upb] using h), fun h => p40 (by simpa [upb] using h), fun h => p41 (by simpa [upb] using h), fun h => p42 (by simpa [upb] using h), fun h => p43 (by simpa [upb] using h), fun h => p44 (by simpa [upb] using h), fun h => p45 (by simpa [upb] using h), fun h => p46 (by simpa [upb] using h), fun h => p47 (by simpa [upb] using h), fun h => p48 (by simpa [upb] using h)⟩
      case op3 =>
        rintro bb _ w' ⟨x34, x35, x36, x37, x38, x39, x40, x41, x42, x43, x44, x45, x46, x47, x48, x49, rfl, B, F0, Q11, Q15, p34, p35, p36, p37, p38, p39, p40, p41, p42, p43, p44, p45, p46, p47, p48⟩ hb hd K hK
        simp only [Act.put, List.setIfInBounds_toArray, List.set_cons_zero, List.set_cons_succ]
        obtain rfl := (p36 (hd 2 (by decide))).symm
        rw [if_pos (by rfl)]
        go_simp
        exact hK _ _ ⟨x34, x35, .pointer (some ⟨g, 6, none⟩), .iface 69 (.pointer (some ⟨g, 6, none⟩)), x38, x39, x40, x41, x42, x43, x44, x45, x46, x47, x48, x49, by simp only [Act.put, List.setIfInBounds_toArray, List.set_cons_zero, List.set_cons_succ], fun h => B (by simpa [upb] using h), fun h => F0 (by simpa [upb] using h), fun h => by have h4 := Q11 (by simpa [upb] using h); simp [upb, h4], fun h => by have h4 := Q15 (by simpa [upb] using h); simp [upb, h4], fun h => p34 (by simpa [upb] using h), fun h => p35 (by simpa [upb] using h), fun _ => rfl, fun _ => rfl, fun h => p38 (by simpa [upb] using h), fun h => p39 (by simpa [upb] using h), fun h => p40 (by simpa [upb] using h), fun h => p41 (by simpa [upb] using h), fun h => p42 (by simpa [upb] using h), fun h => p43 (by simpa [upb] using h), fun h => p44 (by simpa [upb] using h), fun h => p45 (by simpa [upb] using h), fun h => p46 (by simpa [upb] using h), fun h => p47 (by simpa [upb] using h), fun h => p48 (by simpa [upb] using h)⟩
      case op4 =>
        rintro bb _ w' ⟨x34, x35, x36, x37, x38, x39, x40, x41, x42, x43, x44, x45, x46, x47, x48, x49, rfl, B, F0, Q11, Q15, p34, p35, p36, p37, p38, p39, p40, p41, p42, p43, p44, p45, p46, p47, p48⟩ hb hd K hK
        simp only [Act.put, List.setIfInBounds_toArray, List.set_cons_zero, List.set_cons_succ]
        rw [if_pos (by rfl)]
        go_simp
        exact hK _ _ ⟨x34, x35, x36, x37, .int .i64 gg, x39, x40, x41, x42, x43, x44, x45, x46, x47, x48, x49, by simp only [Act.put, List.setIfInBounds_toArray, List.set_cons_zero, List.set_cons_succ], fun h => B (by simpa [upb] using h), fun h => F0 (by simpa [upb] using h), fun h => by have h4 := Q11 (by simpa [upb] using h); simp [upb, h4], fun h => by have h4 := Q15 (by simpa [upb] using h); simp [upb, h4], fun h => p34 (by simpa [upb] using h), fun h => p35 (by simpa [upb] using h), fun h => p36 (by simpa [upb] using h), fun h => p37 (by simpa [upb] using h), fun _ => rfl, fun h => p39 (by simpa [upb] using h), fun h => p40 (by simpa [upb] using h), fun h => p41 (by simpa [upb] using h), fun h => p42 (by simpa [upb] using h), fun h => p43 (by simpa [upb] using h), fun h => p44 (by simpa [upb] using h), fun h => p45 (by simpa [upb] using h), fun h => p46 (by simpa [upb] using h), fun h => p47 (by simpa [upb] using h), fun h => p48 (by simpa [upb] using h)⟩
      case op5 =>
        rintro bb _ w' ⟨x34, x35, x36, x37, x38, x39, x40, x41, x42, x43, x44, x45, x46, x47, x48, x49, rfl, B, F0, Q11, Q15, p34, p35, p36, p37, p38, p39, p40, p41, p42, p43, p44, p45, p46, p47, p48⟩ hb hd K hK
        simp only [Act.put, List.setIfInBounds_toArray, List.set_cons_zero, List.set_cons_succ]
        rw [if_pos (by rfl)]
        go_simp
        exact hK _ _ ⟨x34, x35, x36, x37, x38, .pointer (some ⟨g, 0, none⟩), x40, x41, x42, x43, x44, x45, x46, x47, x48, x49, by simp only [Act.put, List.setIfInBounds_toArray, List.set_cons_zero, List.set_cons_succ], fun h => B (by simpa [upb] using h), fun h => F0 (by simpa [upb] using h), fun h => by have h4 := Q11 (by simpa [upb] using h); simp [upb, h4], fun h => by have h4 := Q15 (by simpa [upb] using h); simp [upb, h4], fun h => p34 (by simpa [upb] using h), fun h => p35 (by simpa [upb] using h), fun h => p36 (by simpa [upb] using h), fun h => p37 (by simpa [upb] using h), fun h => p38 (by simpa [upb] using h), fun _ => rfl, fun h => p40 (by simpa [upb] using h), fun h => p41 (by simpa [upb] using h), fun h => p42 (by simpa [upb] using h), fun h => p43 (by simpa [upb] using h), fun h => p44 (by simpa [upb] using h), fun h => p45 (by simpa [upb] using h), fun h => p46 (by simpa [upb] using h), fun h => p47 (by simpa [upb] using h), fun h => p48 (by simpa [upb] using h)⟩
      case op6 =>
        rintro bb _ w' ⟨x34, x35, x36, x37, x38, x39, x40, x41, x42, x43, x44, x45, x46, x47, x48, x49, rfl, B, F0, Q11, Q15, p34, p35, p36, p37, p38, p39, p40, p41, p42, p43, p44, p45, p46, p47, p48⟩ hb hd K hK
        simp only [Act.put, List.setIfInBounds_toArray, List.set_cons_zero, List.set_cons_succ]
        rw [if_pos (by rfl)]
        go_simp
        exact hK _ _ ⟨x34, x35, x36, x37, x38, x39, .int .i64 t, x41, x42, x43, x44, x45, x46, x47, x48, x49, by simp only [Act.put, List.setIfInBounds_toArray, List.set_cons_zero, List.set_cons_succ], fun h => B (by simpa [upb] using h), fun h => F0 (by simpa [upb] using h), fun h => by have h4 := Q11 (by simpa [upb] using h); simp [upb, h4], fun h => by have h4 := Q15 (by simpa [upb] using h); simp [upb, h4], fun h => p34 (by simpa [upb] using h), fun h => p35 (by simpa [upb] using h), fun h => p36 (by simpa [upb] using h), fun h => p37 (by simpa [upb] using h), fun h => p38 (by simpa [upb] using h), fun h => p39 (by simpa [upb] using h), fun _ => rfl, fun h => p41 (by simpa [upb] using h), fun h => p42 (by simpa [upb] using h), fun h => p43 (by simpa [upb] using h), fun h => p44 (by simpa [upb] using h), fun h => p45 (by simpa [upb] using h), fun h => p46 (by simpa [upb] using h), fun h => p47 (by simpa [upb] using h), fun h => p48 (by simpa [upb] using h)⟩
      case op7 =>
        rintro bb _ w' ⟨x34, x35, x36, x37, x38, x39, x40, x41, x42, x43, x44, x45, x46, x47, x48, x49, rfl, B, F0, Q11, Q15, p34, p35, p36, p37, p38, p39, p40, p41, p42, p43, p44, p45, p46, p47, p48⟩ hb hd K hK
        simp only [Act.put, List.setIfInBounds_toArray, List.set_cons_zero, List.set_cons_succ]
        obtain rfl := (p39 (hd 5 (by decide))).symm
        obtain rfl := (p40 (hd 6 (by decide))).symm
        rw [if_pos (by rfl)]
        have h15 : bb 15 = false := by cases h : bb 15 with | false => rfl | true => exact absurd (Q11 (Q15 h)) (by rw [hb]; decide)
        have QQ : upb bb 7 7 = true := by simp [upb]
        go_simp
        refine (FC.out _ (B h15)).mono ?_
        rintro e w2 ⟨rfl, hb2⟩
        exact hK _ _ ⟨x34, x35, x36, x37, x38, .pointer (some ⟨g, 0, none⟩), .int .i64 t, .int .i64 fv, x42, x43, x44, x45, x46, x47, x48, x49, by simp only [Act.put, List.setIfInBounds_toArray, List.set_cons_zero, List.set_cons_succ], fun _ => below_then (B h15) (B h15).size hb2, fun h => absurd (show bb 15 = true by simpa [upb] using h) (by rw [h15]; decide), fun h => QQ, fun h => absurd (show bb 15 = true by simpa [upb] using h) (by rw [h15]; decide), fun h => p34 (by simpa [upb] using h), fun h => p35 (by simpa [upb] using h), fun h => p36 (by simpa [upb] using h), fun h => p37 (by simpa [upb] using h), fun h => p38 (by simpa [upb] using h), fun _ => rfl, fun _ => rfl, fun _ => rfl, fun h => p42 (by simpa [upb] using h), fun h => p43 (by simpa [upb] using h), fun h => p44 (by simpa [upb] using h), fun h => p45 (by simpa [upb] using h), fun h => p46 (by simpa [upb] using h), fun h => p47 (by simpa [upb] using h), fun h => p48 (by simpa [upb] using h)⟩
      case op8 =>
        rintro bb _ w' ⟨x34, x35, x36, x37, x38, x39, x40, x41, x42, x43, x44, x45, x46, x47, x48, x49, rfl, B, F0, Q11, Q15, p34, p35, p36, p37, p38, p39, p40, p41, p42, p43, p44, p45, p46, p47, p48⟩ hb hd K hK
        simp only [Act.put, List.setIfInBounds_toArray, List.set_cons_zero, List.set_cons_succ]
        obtain rfl := (p38 (hd 4 (by decide))).symm
        obtain rfl := (p41 (hd 7 (by decide))).symm
        rw [if_pos (by rfl)]
        have hw : IntKind.i64.wrap (gg + fv) = gg + fv := IntWalk.i64_in _ (by omega)
        go_simp
        exact hK _ _ ⟨x34, x35, x36, x37, .int .i64 gg, x39, x40, .int .i64 fv, .int .i64 (gg + fv), x43, x44, x45, x46, x47, x48, x49, by simp only [Act.put, List.setIfInBounds_toArray, List.set_cons_zero, List.set_cons_succ], fun h => B (by simpa [upb] using h), fun h => F0 (by simpa [upb] using h), fun h => by have h4 := Q11 (by simpa [upb] using h); simp [upb, h4], fun h => by have h4 := Q15 (by simpa [upb] using h); simp [upb, h4], fun h => p34 (by simpa [upb] using h), fun h => p35 (by simpa [upb] using h), fun h => p36 (by simpa [upb] using h), fun h => p37 (by simpa [upb] using h), fun _ => rfl, fun h => p39 (by simpa [upb] using h), fun h => p40 (by simpa [upb] using h), fun _ => rfl, fun _ => rfl, fun h => p43 (by simpa [upb] using h), fun h => p44 (by simpa [upb] using h), fun h => p45 (by simpa [upb] using h), fun h => p46 (by simpa [upb] using h), fun h => p47 (by simpa [upb] using h), fun h => p48 (by simpa [upb] using h)⟩
      case op9 =>
        rintro bb _ w' ⟨x34, x35, x36, x37, x38, x39, x40, x41, x42, x43, x44, x45, x46, x47, x48, x49, rfl, B, F0, Q11, Q15, p34, p35, p36, p37, p38, p39, p40, p41, p42, p43, p44, p45, p46, p47, p48⟩ hb hd K hK
        simp only [Act.put, List.setIfInBounds_toArray, List.set_cons_zero, List.set_cons_succ]
        rw [if_pos (by rfl)]
        go_simp
        exact hK _ _ ⟨x34, x35, x36, x37, x38, x39, x40, x41, x42, .pointer (some ⟨g, 0, none⟩), x44, x45, x46, x47, x48, x49, by simp only [Act.put, List.setIfInBounds_toArray, List.set_cons_zero, List.set_cons_succ], fun h => B (by simpa [upb] using h), fun h => F0 (by simpa [upb] using h), fun h => by have h4 := Q11 (by simpa [upb] using h); simp [upb, h4], fun h => by have h4 := Q15 (by simpa [upb] using h); simp [upb, h4], fun h => p34 (by simpa [upb] using h), fun h => p35 (by simpa [upb] using h), fun h => p36 (by simpa [upb] using h), fun h => p37 (by simpa [upb] using h), fun h => p38 (by simpa [upb] using h), fun h => p39 (by simpa [upb] using h), fun h => p40 (by simpa [upb] using h), fun h => p41 (by simpa [upb] using h), fun h => p42 (by simpa [upb] using h), fun _ => rfl, fun h => p44 (by simpa [upb] using h), fun h => p45 (by simpa [upb] using h), fun h => p46 (by simpa [upb] using h), fun h => p47 (by simpa [upb] using h), fun h => p48 (by simpa [upb] using h)⟩
      case op10 =>
        rintro bb _ w' ⟨x34, x35, x36, x37, x38, x39, x40, x41, x42, x43, x44, x45, x46, x47, x48, x49, rfl, B, F0, Q11, Q15, p34, p35, p36, p37, p38, p39, p40, p41, p42, p43, p44, p45, p46, p47, p48⟩ hb hd K hK
        simp only [Act.put, List.setIfInBounds_toArray, List.set_cons_zero, List.set_cons_succ]
        rw [if_pos (by rfl)]
        go_simp
        exact hK _ _ ⟨x34, x35, x36, x37, x38, x39, x40, x41, x42, x43, .int .i64 t, x45, x46, x47, x48, x49, by simp only [Act.put, List.setIfInBounds_toArray, List.set_cons_zero, List.set_cons_succ], fun h => B (by simpa [upb] using h), fun h => F0 (by simpa [upb] using h), fun h => by have h4 := Q11 (by simpa [upb] using h); simp [upb, h4], fun h => by have h4 := Q15 (by simpa [upb] using h); simp [upb, h4], fun h => p34 (by simpa [upb] using h), fun h => p35 (by simpa [upb] using h), fun h => p36 (by simpa [upb] using h), fun h => p37 (by simpa [upb] using h), fun h => p38 (by simpa [upb] using h), fun h => p39 (by simpa [upb] using h), fun h => p40 (by simpa [upb] using h), fun h => p41 (by simpa [upb] using h), fun h => p42 (by simpa [upb] using h), fun h => p43 (by simpa [upb] using h), fun _ => rfl, fun h => p45 (by simpa [upb] using h), fun h => p46 (by simpa [upb] using h), fun h => p47 (by simpa [upb] using h), fun h => p48 (by simpa [upb] using h)⟩
      case op11 =>
        rintro bb _ w' ⟨x34, x35, x36, x37, x38, x39, x40, x41, x42, x43, x44, x45, x46, x47, x48, x49, rfl, B, F0, Q11, Q15, p34, p35, p36, p37, p38, p39, p40, p41, p42, p43, p44, p45, p46, p47, p48⟩ hb hd K hK
        simp only [Act.put, List.setIfInBounds_toArray, List.set_cons_zero, List.set_cons_succ]
        obtain rfl := (p43 (hd 9 (by decide))).symm
        obtain rfl := (p44 (hd 10 (by decide))).symm
        rw [if_pos (by rfl)]
        have h15 : bb 15 = false := by cases h : bb 15 with | false => rfl | true => exact absurd (Q15 h) (by rw [hb]; decide)
        have QQ : upb bb 11 7 = true := by have := hd 7 (by decide); simp [upb, this]
        go_simp
        refine (FC.out _ (B h15)).mono ?_
        rintro e w2 ⟨rfl, hb2⟩
        exact hK _ _ ⟨x34, x35, x36, x37, x38, x39, x40, x41, x42, .pointer (some ⟨g, 0, none⟩), .int .i64 t, .int .i64 fv, x46, x47, x48, x49, by simp only [Act.put, List.setIfInBounds_toArray, List.set_cons_zero, List.set_cons_succ], fun _ => below_then (B h15) (B h15).size hb2, fun h => absurd (show bb 15 = true by simpa [upb] using h) (by rw [h15]; decide), fun h => QQ, fun h => absurd (show bb 15 = true by simpa [upb] using h) (by rw [h15]; decide), fun h => p34 (by simpa [upb] using h), fun h => p35 (by simpa [upb] using h), fun h => p36 (by simpa [upb] using h), fun h => p37 (by simpa [upb] using h), fun h => p38 (by simpa [upb] using h), fun h => p39 (by simpa [upb] using h), fun h => p40 (by simpa [upb] using h), fun h => p41 (by simpa [upb] using h), fun h => p42 (by simpa [upb] using h), fun _ => rfl, fun _ => rfl, fun _ => rfl, fun h => p46 (by simpa [upb] using h), fun h => p47 (by simpa [upb] using h), fun h => p48 (by simpa [upb] using h)⟩
      case op12 =>
        rintro bb _ w' ⟨x34, x35, x36, x37, x38, x39, x40, x41, x42, x43, x44, x45, x46, x47, x48, x49, rfl, B, F0, Q11, Q15, p34, p35, p36, p37, p38, p39, p40, p41, p42, p43, p44, p45, p46, p47, p48⟩ hb hd K hK
        simp only [Act.put, List.setIfInBounds_toArray, List.set_cons_zero, List.set_cons_succ]
        rw [if_pos (by rfl)]
        go_simp
        exact hK _ _ ⟨x34, x35, x36, x37, x38, x39, x40, x41, x42, x43, x44, x45, .int .i64 t, x47, x48, x49, by simp only [Act.put, List.setIfInBounds_toArray, List.set_cons_zero, List.set_cons_succ], fun h => B (by simpa [upb] using h), fun h => F0 (by simpa [upb] using h), fun h => by have h4 := Q11 (by simpa [upb] using h); simp [upb, h4], fun h => by have h4 := Q15 (by simpa [upb] using h); simp [upb, h4], fun h => p34 (by simpa [upb] using h), fun h => p35 (by simpa [upb] using h), fun h => p36 (by simpa [upb] using h), fun h => p37 (by simpa [upb] using h), fun h => p38 (by simpa [upb] using h), fun h => p39 (by simpa [upb] using h), fun h => p40 (by simpa [upb] using h), fun h => p41 (by simpa [upb] using h), fun h => p42 (by simpa [upb] using h), fun h => p43 (by simpa [upb] using h), fun h => p44 (by simpa [upb] using h), fun h => p45 (by simpa [upb] using h), fun _ => rfl, fun h => p47 (by simpa [upb] using h), fun h => p48 (by simpa [upb] using h)⟩
      case op13 =>
        rintro bb _ w' ⟨x34, x35, x36, x37, x38, x39, x40, x41, x42, x43, x44, x45, x46, x47, x48, x49, rfl, B, F0, Q11, Q15, p34, p35, p36, p37, p38, p39, p40, p41, p42, p43, p44, p45, p46, p47, p48⟩ hb hd K hK
        simp only [Act.put, List.setIfInBounds_toArray, List.set_cons_zero, List.set_cons_succ]
        obtain rfl := (p42 (hd 8 (by decide))).symm
        obtain rfl := (p45 (hd 11 (by decide))).symm
        obtain rfl := (p46 (hd 12 (by decide))).symm
        rw [if_pos (by rfl)]
        go_simp
        exact hK _ _ ⟨x34, x35, x36, x37, x38, x39, x40, x41, .int .i64 (gg + fv), x43, x44, .int .i64 fv, .int .i64 t, .agg #[.int .i64 (gg + fv), .int .i64 fv, .int .i64 t], x48, x49, by simp only [Act.put, List.setIfInBounds_toArray, List.set_cons_zero, List.set_cons_succ], fun h => B (by simpa [upb] using h), fun h => F0 (by simpa [upb] using h), fun h => by have h4 := Q11 (by simpa [upb] using h); simp [upb, h4], fun h => by have h4 := Q15 (by simpa [upb] using h); simp [upb, h4], fun h => p34 (by simpa [upb] using h), fun h => p35 (by simpa [upb] using h), fun h => p36 (by simpa [upb] using h), fun h => p37 (by simpa [upb] using h), fun h => p38 (by simpa [upb] using h), fun h => p39 (by simpa [upb] using h), fun h => p40 (by simpa [upb] using h), fun h => p41 (by simpa [upb] using h), fun _ => rfl, fun h => p43 (by simpa [upb] using h), fun h => p44 (by simpa [upb] using h), fun _ => rfl, fun _ => rfl, fun _ => rfl, fun h => p48 (by simpa [upb] using h)⟩
      case op14 =>
        rintro bb _ w' ⟨x34, x35, x36, x37, x38, x39, x40, x41, x42, x43, x44, x45, x46, x47, x48, x49, rfl, B, F0, Q11, Q15, p34, p35, p36, p37, p38, p39, p40, p41, p42, p43, p44, p45, p46, p47, p48⟩ hb hd K hK
        simp only [Act.put, List.setIfInBounds_toArray, List.set_cons_zero, List.set_cons_succ]
        obtain rfl := (p47 (hd 13 (by decide))).symm
        rw [if_pos (by rfl)]
        go_simp
        exact hK _ _ ⟨x34, x35, x36, x37, x38, x39, x40, x41, x42, x43, x44, x45, x46, .agg #[.int .i64 (gg + fv), .int .i64 fv, .int .i64 t], .iface 51 (.agg #[.int .i64 (gg + fv), .int .i64 fv, .int .i64 t]), x49, by simp only [Act.put, List.setIfInBounds_toArray, List.set_cons_zero, List.set_cons_succ], fun h => B (by simpa [upb] using h), fun h => F0 (by simpa [upb] using h), fun h => by have h4 := Q11 (by simpa [upb] using h); simp [upb, h4], fun h => by have h4 := Q15 (by simpa [upb] using h); simp [upb, h4], fun h => p34 (by simpa [upb] using h), fun h => p35 (by simpa [upb] using h), fun h => p36 (by simpa [upb] using h), fun h => p37 (by simpa [upb] using h), fun h => p38 (by simpa [upb] using h), fun h => p39 (by simpa [upb] using h), fun h => p40 (by simpa [upb] using h), fun h => p41 (by simpa [upb] using h), fun h => p42 (by simpa [upb] using h), fun h => p43 (by simpa [upb] using h), fun h => p44 (by simpa [upb] using h), fun h => p45 (by simpa [upb] using h), fun h => p46 (by simpa [upb] using h), fun _ => rfl, fun _ => rfl⟩
      case op15 =>
        rintro bb _ w' ⟨x34, x35, x36, x37, x38, x39, x40, x41, x42, x43, x44, x45, x46, x47, x48, x49, rfl, B, F0, Q11, Q15, p34, p35, p36, p37, p38, p39, p40, p41, p42, p43, p44, p45, p46, p47, p48⟩ hb hd K hK
        simp only [Act.put, List.setIfInBounds_toArray, List.set_cons_zero, List.set_cons_succ]
        obtain rfl := (p37 (hd 3 (by decide))).symm
        obtain rfl := (p48 (hd 14 (by decide))).symm
        rw [if_pos (by rfl)]
        go_simp
        refine (PC.out _ (B hb)).mono ?_
        rintro e w2 ⟨rfl, v1, hp1, hk1, hm1⟩
        have hfin : ∃ v', Hp w w2 g q v' (hp_push l ⟨gg + fv, fv, t⟩) ∧ KeepBut W2 w2 g v.ownBlock ∧ Mv W2 v v' := ⟨v1, hp1, KeepBut.trans (KeepBut.of_below (B hb) g v.ownBlock) hk1 (.inl rfl), Mv.trans (Mv.refl _ _) hm1 (B hb).size⟩
        exact hK _ _ ⟨x34, x35, x36, .iface 69 (.pointer (some ⟨g, 6, none⟩)), x38, x39, x40, x41, x42, x43, x44, x45, x46, x47, .iface 51 (.agg #[.int .i64 (gg + fv), .int .i64 fv, .int .i64 t]), .tuple #[], by simp only [Act.put, List.setIfInBounds_toArray, List.set_cons_zero, List.set_cons_succ], fun h => absurd h (by simp [upb]), fun _ => hfin, fun h => by have h4 := Q11 (by simpa [upb] using h); simp [upb, h4], fun _ => by have := hd 11 (by decide); simp [upb, this], fun h => p34 (by simpa [upb] using h), fun h => p35 (by simpa [upb] using h), fun h => p36 (by simpa [upb] using h), fun _ => rfl, fun h => p38 (by simpa [upb] using h), fun h => p39 (by simpa [upb] using h), fun h => p40 (by simpa [upb] using h), fun h => p41 (by simpa [upb] using h), fun h => p42 (by simpa [upb] using h), fun h => p43 (by simpa [upb] using h), fun h => p44 (by simpa [upb] using h), fun h => p45 (by simpa [upb] using h), fun h => p46 (by simpa [upb] using h), fun h => p47 (by simpa [upb] using h), fun _ => rfl⟩
      case done =>
        rintro bb _ w' hb ⟨x34, x35, x36, x37, x38, x39, x40, x41, x42, x43, x44, x45, x46, x47, x48, x49, rfl, B, F0, Q11, Q15, p34, p35, p36, p37, p38, p39, p40, p41, p42, p43, p44, p45, p46, p47, p48⟩
        obtain rfl := (p34 (hb 0 (by decide))).symm
        obtain rfl := (p35 (hb 1 (by decide))).symm
        obtain rfl := (p36 (hb 2 (by decide))).symm
        obtain rfl := (p37 (hb 3 (by decide))).symm
        obtain rfl := (p38 (hb 4 (by decide))).symm
        obtain rfl := (p39 (hb 5 (by decide))).symm
        obtain rfl := (p40 (hb 6 (by decide))).symm
        obtain rfl := (p41 (hb 7 (by decide))).symm
        obtain rfl := (p42 (hb 8 (by decide))).symm
        obtain rfl := (p43 (hb 9 (by decide))).symm
        obtain rfl := (p44 (hb 10 (by decide))).symm
        obtain rfl := (p45 (hb 11 (by decide))).symm
        obtain rfl := (p46 (hb 12 (by decide))).symm
        obtain rfl := (p47 (hb 13 (by decide))).symm
        obtain rfl := (p48 (hb 14 (by decide))).symm
        simp only [Act.put, List.setIfInBounds_toArray, List.set_cons_zero, List.set_cons_succ]
        obtain ⟨v1, hp1, hk1, hm1⟩ := F0 (hb 15 (by decide))
        have HF := Lib.hid (show Ss w w' g q v1 (hp_push l ⟨gg + fv, fv, t⟩) (sUp F t (gg, by_, false)) from (HS2.out.push hp1 hk1))
        have HK := Lib.hid hk1
        have HM := Lib.hid hm1
        clear B F0 Q11 Q15 hb FC PC hp1 hk1 hm1
        go_wp2_with fail
        first | go_end0 | ((try simp only [Exit.inBlock, Exit.then]); refine bodyPost_ret (results_none rfl _ _ _) rfl ?_)
        exact ⟨rfl, v1, by first | exact HF.out | (rw [hl1, hF1]; exact HF.out), Fr.trans HFr.out (Fr.of_keep HK.out _) (.inl rfl), Mv.trans (Mv.refl W v) HM.out HFr.out.1⟩
    | false =>
      go_enter Try.func17, Try.ntmps17
      go_wp2
      refine wp_region_inv (fun a0 w_0 b a' w' => ∃ x34 x35 x36 x37 x38 x39 x40 x41 x42 x43 x44 x45 x46 x47 x48 x49 : Value, a' = ((((((((((((((((a0.put (some 34) x34).put (some 35) x35).put (some 36) x36).put (some 37) x37).put (some 38) x38).put (some 39) x39).put (some 40) x40).put (some 41) x41).put (some 42) x42).put (some 43) x43).put (some 44) x44).put (some 45) x45).put (some 46) x46).put (some 47) x47).put (some 48) x48).put (some 49) x49) ∧ (b 15 = false → Below W2.heap.size W2 w') ∧ (b 15 = true → ∃ v', Hp w w' g q v' (hp_push l ⟨gg + fv, fv, t⟩) ∧ KeepBut W2 w' g v.ownBlock ∧ Mv W2 v v') ∧ (b 11 = true → b 7 = true) ∧ (b 15 = true → b 11 = true) ∧ (b 0 = true → x34 = .pointer (some ⟨g, 0, none⟩)) ∧ (b 1 = true → x35 = .pointer (some ⟨g, 0, none⟩)) ∧ (b 2 = true → x36 = .pointer (some ⟨g, 6, none⟩)) ∧ (b 3 = true → x37 = .iface 69 (.pointer (some ⟨g, 6, none⟩))) ∧ (b 4 = true → x38 = .int .i64 gg) ∧ (b 5 = true → x39 = .pointer (some ⟨g, 0, none⟩)) ∧ (b 6 = true → x40 = .int .i64 t) ∧ (b 7 = true → x41 = .int .i64 fv) ∧ (b 8 = true → x42 = .int .i64 (gg + fv)) ∧ (b 9 = true → x43 = .pointer (some ⟨g, 0, none⟩)) ∧ (b 10 = true → x44 = .int .i64 t) ∧ (b 11 = true → x45 = .int .i64 fv) ∧ (b 12 = true → x46 = .int .i64 t) ∧ (b 13 = true → x47 = .agg #[.int .i64 (gg + fv), .int .i64 fv, .int .i64 t]) ∧ (b 14 = true → x48 = .iface 51 (.agg #[.int .i64 (gg + fv), .int .i64 fv, .int .i64 t]))) (by kernel_rfl) (by kernel_rfl) ?start ⟨?op0, ?op1, ?op2, ?op3, ?op4, ?op5, ?op6, ?op7, ?op8, ?op9, ?op10, ?op11, ?op12, ?op13, ?op14, ?op15, trivial⟩ ?done
      case start => exact ⟨_, _, _, _, _, _, _, _, _, _, _, _, _, _, _, _, by simp only [Act.put, List.setIfInBounds_toArray, List.set_cons_zero, List.set_cons_succ]; rfl, fun _ => below_drew1 (Below.refl _ _), fun h => absurd h (by decide), fun h => absurd h (by decide), fun h => absurd h (by decide), fun h => absurd h (by decide), fun h => absurd h (by decide), fun h => absurd h (by decide), fun h => absurd h (by decide), fun h => absurd h (by decide), fun h => absurd h (by decide), fun h => absurd h (by decide), fun h => absurd h (by decide), fun h => absurd h (by decide), fun h => absurd h (by decide), fun h => absurd h (by decide), fun h => absurd h (by decide), fun h => absurd h (by decide), fun h => absurd h (by decide), fun h => absurd h (by decide)⟩
      case op0 =>
        rintro bb _ w' ⟨x34, x35, x36, x37, x38, x39, x40, x41, x42, x43, x44, x45, x46, x47, x48, x49, rfl, B, F0, Q11, Q15, p34, p35, p36, p37, p38, p39, p40, p41, p42, p43, p44, p45, p46, p47, p48⟩ hb hd K hK
        simp only [Act.put, List.setIfInBounds_toArray, List.set_cons_zero, List.set_cons_succ]
        rw [if_pos (by rfl)]
        go_simp
        exact hK _ _ ⟨.pointer (some ⟨g, 0, none⟩), x35, x36, x37, x38, x39, x40, x41, x42, x43, x44, x45, x46, x47, x48, x49, by simp only [Act.put, List.setIfInBounds_toArray, List.set_cons_zero, List.set_cons_succ], fun h => B (by simpa [upb] using h), fun h => F0 (by simpa [upb] using h), fun h => by have h4 := Q11 (by simpa [upb] using h); simp [upb, h4], fun h => by have h4 := Q15 (by simpa [upb] using h); simp [upb, h4], fun _ => rfl, fun h => p35 (by simpa [upb] using h), fun h => p36 (by simpa [upb] using h), fun h => p37 (by simpa [upb] using h), fun h => p38 (by simpa [upb] using h), fun h => p39 (by simpa [upb] using h), fun h => p40 (by simpa [upb] using h), fun h => p41 (by simpa [upb] using h), fun h => p42 (by simpa [upb] using h), fun h => p43 (by simpa [upb] using h), fun h => p44 (by simpa [upb] using h), fun h => p45 (by simpa [upb] using h), fun h => p46 (by simpa [upb] using h), fun h => p47 (by simpa [upb] using h), fun h => p48 (by simpa [upb] using h)⟩
      case op1 =>
        rintro bb _ w' ⟨x34, x35, x36, x37, x38, x39, x40, x41, x42, x43, x44, x45, x46, x47, x48, x49, rfl, B, F0, Q11, Q15, p34, p35, p36, p37, p38, p39, p40, p41, p42, p43, p44, p45, p46, p47, p48⟩ hb hd K hK
        simp only [Act.put, List.setIfInBounds_toArray, List.set_cons_zero, List.set_cons_succ]
        obtain rfl := (p34 (hd 0 (by decide))).symm
        rw [if_pos (by rfl)]
        go_simp
        exact hK _ _ ⟨.pointer (some ⟨g, 0, none⟩), .pointer (some ⟨g, 0, none⟩), x36, x37, x38, x39, x40, x41, x42, x43, x44, x45, x46, x47, x48, x49, by simp only [Act.put, List.setIfInBounds_toArray, List.set_cons_zero, List.set_cons_succ], fun h => B (by simpa [upb] using h), fun h => F0 (by simpa [upb] using h), fun h => by have h4 := Q11 (by simpa [upb] using h); simp [upb, h4], fun h => by have h4 := Q15 (by simpa [upb] using h); simp [upb, h4], fun _ => rfl, fun _ => rfl, fun h => p36 (by simpa [upb] using h), fun h => p37 (by simpa [upb] using h), fun h => p38 (by simpa [upb] using h), fun h => p39 (by simpa [upb] using h), fun h => p40 (by simpa [upb] using h), fun h => p41 (by simpa [upb] using h), fun h => p42 (by simpa [upb] using h), fun h => p43 (by simpa [upb] using h), fun h => p44 (by simpa [upb] using h), fun h => p45 (by simpa [upb] using h), fun h => p46 (by simpa [upb] using h), fun h => p47 (by simpa [upb] using h), fun h => p48 (by simpa [upb] using h)⟩
      case op2 =>
        rintro bb _ w' ⟨x34, x35, x36, x37, x38, x39, x40, x41, x42, x43, x44, x45, x46, x47, x48, x49, rfl, B, F0, Q11, Q15, p34, p35, p36, p37, p38, p39, p40, p41, p42, p43, p44, p45, p46, p47, p48⟩ hb hd K hK
        simp only [Act.put, List.setIfInBounds_toArray, List.set_cons_zero, List.set_cons_succ]
        obtain rfl := (p35 (hd 1 (by decide))).symm
        rw [if_pos (by rfl)]
        go_simp
        exact hK _ _ ⟨x34, .pointer (some ⟨g, 0, none⟩), .pointer (some ⟨g, 6, none⟩), x37, x38, x39, x40, x41, x42, x43, x44, x45, x46, x47, x48, x49, by simp only [Act.put, List.setIfInBounds_toArray, List.set_cons_zero, List.set_cons_succ], fun h => B (by simpa [upb] using h), fun h => F0 (by simpa [upb] using h), fun h => by have h4 := Q11 (by simpa [upb] using h); simp [upb, h4], fun h => by have h4 := Q15 (by simpa [upb] using h); simp [upb, h4], fun h => p34 (by simpa [upb] using h), fun _ => rfl, fun _ => rfl, fun h => p37 (by simpa [upb] using h), fun h => p38 (by simpa [upb] using h), fun h => p39 (by simpa [upb] using h), fun h => p40 (by simpa [upb] using h), fun h => p41 (by simpa [upb] using h), fun h => p42 (by simpa [upb] using h), fun h => p43 (by simpa [upb] using h), fun h => p44 (by simpa [upb] using h), fun h => p45 (by simpa [upb] using h), fun h => p46 (by simpa [upb] using h), fun h => p47 (by simpa [upb] using h), fun h => p48 (by simpa [upb] using h)⟩
      case op3 =>
        rintro bb _ w' ⟨x34, x35, x36, x37, x38, x39, x40, x41, x42, x43, x44, x45, x46, x47, x48, x49, rfl, B, F0, Q11, Q15, p34, p35, p36, p37, p38, p39, p40, p41, p42, p43, p44, p45, p46, p47, p48⟩ hb hd K hK
        simp only [Act.put, List.setIfInBounds_toArray, List.set_cons_zero, List.set_cons_succ]
        obtain rfl := (p36 (hd 2 (by decide))).symm
        rw [if_pos (by rfl)]
        go_simp
        exact hK _ _ ⟨x34, x35, .pointer (some ⟨g, 6, none⟩), .iface 69 (.pointer (some ⟨g, 6, none⟩)), x38, x39, x40, x41, x42, x43, x44, x45, x46, x47, x48, x49, by simp only [Act.put, List.setIfInBounds_toArray, List.set_cons_zero, List.set_cons_succ], fun h => B (by simpa [upb] using h), fun h => F0 (by simpa [upb] using h), fun h => by have h4 := Q11 (by simpa [upb] using h); simp [upb, h4], fun h => by have h4 := Q15 (by simpa [upb] using h); simp [upb, h4], fun h => p34 (by simpa [upb] using h), fun h => p35 (by simpa [upb] using h), fun _ => rfl, fun _ => rfl, fun h => p38 (by simpa [upb] using h), fun h => p39 (by simpa [upb] using h), fun h => p40 (by simpa [upb] using h), fun h => p41 (by simpa [upb] using h), fun h => p42 (by simpa [upb] using h), fun h => p43 (by simpa [upb] using h), fun h => p44 (by simpa [upb] using h), fun h => p45 (by simpa [upb] using h), fun h => p46 (by simpa [upb] using h), fun h => p47 (by simpa [upb] using h), fun h => p48 (by simpa [upb] using h)⟩
      case op4 =>
        rintro bb _ w' ⟨x34, x35, x36, x37, x38, x39, x40, x41, x42, x43, x44, x45, x46, x47, x48, x49, rfl, B, F0, Q11, Q15, p34, p35, p36, p37, p38, p39, p40, p41, p42, p43, p44, p45, p46, p47, p48⟩ hb hd K hK
        simp only [Act.put, List.setIfInBounds_toArray, List.set_cons_zero, List.set_cons_succ]
        rw [if_pos (by rfl)]
        go_simp
        exact hK _ _ ⟨x34, x35, x36, x37, .int .i64 gg, x39, x40, x41, x42, x43, x44, x45, x46, x47, x48, x49, by simp only [Act.put, List.setIfInBounds_toArray, List.set_cons_zero, List.set_cons_succ], fun h => B (by simpa [upb] using h), fun h => F0 (by simpa [upb] using h), fun h => by have h4 := Q11 (by simpa [upb] using h); simp [upb, h4], fun h => by have h4 := Q15 (by simpa [upb] using h); simp [upb, h4], fun h => p34 (by simpa [upb] using h), fun h => p35 (by simpa [upb] using h), fun h => p36 (by simpa [upb] using h), fun h => p37 (by simpa [upb] using h), fun _ => rfl, fun h => p39 (by simpa [upb] using h), fun h => p40 (by simpa [upb] using h), fun h => p41 (by simpa [upb] using h), fun h => p42 (by simpa [upb] using h), fun h => p43 (by simpa [upb] using h), fun h => p44 (by simpa [upb] using h), fun h => p45 (by simpa [upb] using h), fun h => p46 (by simpa [upb] using h), fun h => p47 (by simpa [upb] using h), fun h => p48 (by simpa [upb] using h)⟩
      case op5 =>
        rintro bb _ w' ⟨x34, x35, x36, x37, x38, x39, x40, x41, x42, x43, x44, x45, x46, x47, x48, x49, rfl, B, F0, Q11, Q15, p34, p35, p36, p37, p38, p39, p40, p41, p42, p43, p44, p45, p46, p47, p48⟩ hb hd K hK
        simp only [Act.put, List.setIfInBounds_toArray, List.set_cons_zero, List.set_cons_succ]
        rw [if_pos (by rfl)]
        go_simp
        exact hK _ _ ⟨x34, x35, x36, x37, x38, .pointer (some ⟨g, 0, none⟩), x40, x41, x42, x43, x44, x45, x46, x47, x48, x49, by simp only [Act.put, List.setIfInBounds_toArray, List.set_cons_zero, List.set_cons_succ], fun h => B (by simpa [upb] using h), fun h => F0 (by simpa [upb] using h), fun h => by have h4 := Q11 (by simpa [upb] using h); simp [upb, h4], fun h => by have h4 := Q15 (by simpa [upb] using h); simp [upb, h4], fun h => p34 (by simpa [upb] using h), fun h => p35 (by simpa [upb] using h), fun h => p36 (by simpa [upb] using h), fun h => p37 (by simpa [upb] using h), fun h => p38 (by simpa [upb] using h), fun _ => rfl, fun h => p40 (by simpa [upb] using h), fun h => p41 (by simpa [upb] using h), fun h => p42 (by simpa [upb] using h), fun h => p43 (by simpa [upb] using h), fun h => p44 (by simpa [upb] using h), fun h => p45 (by simpa [upb] using h), fun h => p46 (by simpa [upb] using h), fun h => p47 (by simpa [upb] using h), fun h => p48 (by simpa [upb] using h)⟩
      case op6 =>
        rintro bb _ w' ⟨x34, x35, x36, x37, x38, x39, x40, x41, x42, x43, x44, x45, x46, x47, x48, x49, rfl, B, F0, Q11, Q15, p34, p35, p36, p37, p38, p39, p40, p41, p42, p43, p44, p45, p46, p47, p48⟩ hb hd K hK
        simp only [Act.put, List.setIfInBounds_toArray, List.set_cons_zero, List.set_cons_succ]
        rw [if_pos (by rfl)]
        go_simp
        exact hK _ _ ⟨x34, x35, x36, x37, x38, x39, .int .i64 t, x41, x42, x43, x44, x45, x46, x47, x48, x49, by simp only [Act.put, List.setIfInBounds_toArray, List.set_cons_zero, List.set_cons_succ], fun h => B (by simpa [upb] using h), fun h => F0 (by simpa [upb] using h), fun h => by have h4 := Q11 (by simpa [upb] using h); simp [upb, h4], fun h => by have h4 := Q15 (by simpa [upb] using h); simp [upb, h4], fun h => p34 (by simpa [upb] using h), fun h => p35 (by simpa [upb] using h), fun h => p36 (by simpa [upb] using h), fun h => p37 (by simpa [upb] using h), fun h => p38 (by simpa [upb] using h), fun h => p39 (by simpa [upb] using h), fun _ => rfl, fun h => p41 (by simpa [upb] using h), fun h => p42 (by simpa [upb] using h), fun h => p43 (by simpa [upb] using h), fun h => p44 (by simpa [upb] using h), fun h => p45 (by simpa [upb] using h), fun h => p46 (by simpa [upb] using h), fun h => p47 (by simpa [upb] using h), fun h => p48 (by simpa [upb] using h)⟩
      case op7 =>
        rintro bb _ w' ⟨x34, x35, x36, x37, x38, x39, x40, x41, x42, x43, x44, x45, x46, x47, x48, x49, rfl, B, F0, Q11, Q15, p34, p35, p36, p37, p38, p39, p40, p41, p42, p43, p44, p45, p46, p47, p48⟩ hb hd K hK
        simp only [Act.put, List.setIfInBounds_toArray, List.set_cons_zero, List.set_cons_succ]
        obtain rfl := (p39 (hd 5 (by decide))).symm
        obtain rfl := (p40 (hd 6 (by decide))).symm
        rw [if_pos (by rfl)]
        have h15 : bb 15 = false := by cases h : bb 15 with | false => rfl | true => exact absurd (Q11 (Q15 h)) (by rw [hb]; decide)
        have QQ : upb bb 7 7 = true := by simp [upb]
        go_simp
        refine (FC.out _ (B h15)).mono ?_
        rintro e w2 ⟨rfl, hb2⟩
        exact hK _ _ ⟨x34, x35, x36, x37, x38, .pointer (some ⟨g, 0, none⟩), .int .i64 t, .int .i64 fv, x42, x43, x44, x45, x46, x47, x48, x49, by simp only [Act.put, List.setIfInBounds_toArray, List.set_cons_zero, List.set_cons_succ], fun _ => below_then (B h15) (B h15).size hb2, fun h => absurd (show bb 15 = true by simpa [upb] using h) (by rw [h15]; decide), fun h => QQ, fun h => absurd (show bb 15 = true by simpa [upb] using h) (by rw [h15]; decide), fun h => p34 (by simpa [upb] using h), fun h => p35 (by simpa [upb] using h), fun h => p36 (by simpa [upb] using h), fun h => p37 (by simpa [upb] using h), fun h => p38 (by simpa [upb] using h), fun _ => rfl, fun _ => rfl, fun _ => rfl, fun h => p42 (by simpa [upb] using h), fun h => p43 (by simpa [upb] using h), fun h => p44 (by simpa [upb] using h), fun h => p45 (by simpa [upb] using h), fun h => p46 (by simpa [upb] using h), fun h => p47 (by simpa [upb] using h), fun h => p48 (by simpa [upb] using h)⟩
      case op8 =>
        rintro bb _ w' ⟨x34, x35, x36, x37, x38, x39, x40, x41, x42, x43, x44, x45, x46, x47, x48, x49, rfl, B, F0, Q11, Q15, p34, p35, p36, p37, p38, p39, p40, p41, p42, p43, p44, p45, p46, p47, p48⟩ hb hd K hK
        simp only [Act.put, List.setIfInBounds_toArray, List.set_cons_zero, List.set_cons_succ]
        obtain rfl := (p38 (hd 4 (by decide))).symm
        obtain rfl := (p41 (hd 7 (by decide))).symm
        rw [if_pos (by rfl)]
        have hw : IntKind.i64.wrap (gg + fv) = gg + fv := IntWalk.i64_in _ (by omega)
        go_simp
        exact hK _ _ ⟨x34, x35, x36, x37, .int .i64 gg, x39, x40, .int .i64 fv, .int .i64 (gg + fv), x43, x44, x45, x46, x47, x48, x49, by simp only [Act.put, List.setIfInBounds_toArray, List.set_cons_zero, List.set_cons_succ], fun h => B (by simpa [upb] using h), fun h => F0 (by simpa [upb] using h), fun h => by have h4 := Q11 (by simpa [upb] using h); simp [upb, h4], fun h => by have h4 := Q15 (by simpa [upb] using h); simp [upb, h4], fun h => p34 (by simpa [upb] using h), fun h => p35 (by simpa [upb] using h), fun h => p36 (by simpa [upb] using h), fun h => p37 (by simpa [upb] using h), fun _ => rfl, fun h => p39 (by simpa [upb] using h), fun h => p40 (by simpa [upb] using h), fun _ => rfl, fun _ => rfl, fun h => p43 (by simpa [upb] using h), fun h => p44 (by simpa [upb] using h), fun h => p45 (by simpa [upb] using h), fun h => p46 (by simpa [upb] using h), fun h => p47 (by simpa [upb] using h), fun h => p48 (by simpa [upb] using h)⟩
      case op9 =>
        rintro bb _ w' ⟨x34, x35, x36, x37, x38, x39, x40, x41, x42, x43, x44, x45, x46, x47, x48, x49, rfl, B, F0, Q11, Q15, p34, p35, p36, p37, p38, p39, p40, p41, p42, p43, p44, p45, p46, p47, p48⟩ hb hd K hK
        simp only [Act.put, List.setIfInBounds_toArray, List.set_cons_zero, List.set_cons_succ]
        rw [if_pos (by rfl)]
        go_simp
        exact hK _ _ ⟨x34, x35, x36, x37, x38, x39, x40, x41, x42, .pointer (some ⟨g, 0, none⟩), x44, x45, x46, x47, x48, x49, by simp only [Act.put, List.setIfInBounds_toArray, List.set_cons_zero, List.set_cons_succ], fun h => B (by simpa [upb] using h), fun h => F0 (by simpa [upb] using h), fun h => by have h4 := Q11 (by simpa [upb] using h); simp [upb, h4], fun h => by have h4 := Q15 (by simpa [upb] using h); simp [upb, h4], fun h => p34 (by simpa [upb] using h), fun h => p35 (by simpa [upb] using h), fun h => p36 (by simpa [upb] using h), fun h => p37 (by simpa [upb] using h), fun h => p38 (by simpa [upb] using h), fun h => p39 (by simpa [upb] using h), fun h => p40 (by simpa [upb] using h), fun h => p41 (by simpa [upb] using h), fun h => p42 (by simpa [upb] using h), fun _ => rfl, fun h => p44 (by simpa [upb] using h), fun h => p45 (by simpa [upb] using h), fun h => p46 (by simpa [upb] using h), fun h => p47 (by simpa [upb] using h), fun h => p48 (by simpa [upb] using h)⟩
      case op10 =>
        rintro bb _ w' ⟨x34, x35, x36, x37, x38, x39, x40, x41, x42, x43, x44, x45, x46, x47, x48, x49, rfl, B, F0, Q11, Q15, p34, p35, p36, p37, p38, p39, p40, p41, p42, p43, p44, p45, p46, p47, p48⟩ hb hd K hK
        simp only [Act.put, List.setIfInBounds_toArray, List.set_cons_zero, List.set_cons_succ]
        rw [if_pos (by rfl)]
        go_simp
        exact hK _ _ ⟨x34, x35, x36, x37, x38, x39, x40, x41, x42, x43, .int .i64 t, x45, x46, x47, x48, x49, by simp only [Act.put, List.setIfInBounds_toArray, List.set_cons_zero, List.set_cons_succ], fun h => B (by simpa [upb] using h), fun h => F0 (by simpa [upb] using h), fun h => by have h4 := Q11 (by simpa [upb] using h); simp [upb, h4], fun h => by have h4 := Q15 (by simpa [upb] using h); simp [upb, h4], fun h => p34 (by simpa [upb] using h), fun h => p35 (by simpa [upb] using h), fun h => p36 (by simpa [upb] using h), fun h => p37 (by simpa [upb] using h), fun h => p38 (by simpa [upb] using h), fun h => p39 (by simpa [upb] using h), fun h => p40 (by simpa [upb] using h), fun h => p41 (by simpa [upb] using h), fun h => p42 (by simpa [upb] using h), fun h => p43 (by simpa [upb] using h), fun _ => rfl, fun h => p45 (by simpa [upb] using h), fun h => p46 (by simpa [upb] using h), fun h => p47 (by simpa [upb] using h), fun h => p48 (by simpa [upb] using h)⟩
      case op11 =>
        rintro bb _ w' ⟨x34, x35, x36, x37, x38, x39, x40, x41, x42, x43, x44, x45, x46, x47, x48, x49, rfl, B, F0, Q11, Q15, p34, p35, p36, p37, p38, p39, p40, p41, p42, p43, p44, p45, p46, p47, p48⟩ hb hd K hK
        simp only [Act.put, List.setIfInBounds_toArray, List.set_cons_zero, List.set_cons_succ]
        obtain rfl := (p43 (hd 9 (by decide))).symm
        obtain rfl := (p44 (hd 10 (by decide))).symm
        rw [if_pos (by rfl)]
        have h15 : bb 15 = false := by cases h : bb 15 with | false => rfl | true => exact absurd (Q15 h) (by rw [hb]; decide)
        have QQ : upb bb 11 7 = true := by have := hd 7 (by decide); simp [upb, this]
        go_simp
        refine (FC.out _ (B h15)).mono ?_
        rintro e w2 ⟨rfl, hb2⟩
        exact hK _ _ ⟨x34, x35, x36, x37, x38, x39, x40, x41, x42, .pointer (some ⟨g, 0, none⟩), .int .i64 t, .int .i64 fv, x46, x47, x48, x49, by simp only [Act.put, List.setIfInBounds_toArray, List.set_cons_zero, List.set_cons_succ], fun _ => below_then (B h15) (B h15).size hb2, fun h => absurd (show bb 15 = true by simpa [upb] using h) (by rw [h15]; decide), fun h => QQ, fun h => absurd (show bb 15 = true by simpa [upb] using h) (by rw [h15]; decide), fun h => p34 (by simpa [upb] using h), fun h => p35 (by simpa [upb] using h), fun h => p36 (by simpa [upb] using h), fun h => p37 (by simpa [upb] using h), fun h => p38 (by simpa [upb] using h), fun h => p39 (by simpa [upb] using h), fun h => p40 (by simpa [upb] using h), fun h => p41 (by simpa [upb] using h), fun h => p42 (by simpa [upb] using h), fun _ => rfl, fun _ => rfl, fun _ => rfl, fun h => p46 (by simpa [upb] using h), fun h => p47 (by simpa [upb] using h), fun h => p48 (by simpa [upb] using h)⟩
      case op12 =>
        rintro bb _ w' ⟨x34, x35, x36, x37, x38, x39, x40, x41, x42, x43, x44, x45, x46, x47, x48, x49, rfl, B, F0, Q11, Q15, p34, p35, p36, p37, p38, p39, p40, p41, p42, p43, p44, p45, p46, p47, p48⟩ hb hd K hK
        simp only [Act.put, List.setIfInBounds_toArray, List.set_cons_zero, List.set_cons_succ]
        rw [if_pos (by rfl)]
        go_simp
        exact hK _ _ ⟨x34, x35, x36, x37, x38, x39, x40, x41, x42, x43, x44, x45, .int .i64 t, x47, x48, x49, by simp only [Act.put, List.setIfInBounds_toArray, List.set_cons_zero, List.set_cons_succ], fun h => B (by simpa [upb] using h), fun h => F0 (by simpa [upb] using h), fun h => by have h4 := Q11 (by simpa [upb] using h); simp [upb, h4], fun h => by have h4 := Q15 (by simpa [upb] using h); simp [upb, h4], fun h => p34 (by simpa [upb] using h), fun h => p35 (by simpa [upb] using h), fun h => p36 (by simpa [upb] using h), fun h => p37 (by simpa [upb] using h), fun h => p38 (by simpa [upb] using h), fun h => p39 (by simpa [upb] using h), fun h => p40 (by simpa [upb] using h), fun h => p41 (by simpa [upb] using h), fun h => p42 (by simpa [upb] using h), fun h => p43 (by simpa [upb] using h), fun h => p44 (by simpa [upb] using h), fun h => p45 (by simpa [upb] using h), fun _ => rfl, fun h => p47 (by simpa [upb] using h), fun h => p48 (by simpa [upb] using h)⟩
      case op13 =>
        rintro bb _ w' ⟨x34, x35, x36, x37, x38, x39, x40, x41, x42, x43, x44, x45, x46, x47, x48, x49, rfl, B, F0, Q11, Q15, p34, p35, p36, p37, p38, p39, p40, p41, p42, p43, p44, p45, p46, p47, p48⟩ hb hd K hK
        simp only [Act.put, List.setIfInBounds_toArray, List.set_cons_zero, List.set_cons_succ]
        obtain rfl := (p42 (hd 8 (by decide))).symm
        obtain rfl := (p45 (hd 11 (by decide))).symm
        obtain rfl := (p46 (hd 12 (by decide))).symm
        rw [if_pos (by rfl)]
        go_simp
        exact hK _ _ ⟨x34, x35, x36, x37, x38, x39, x40, x41, .int .i64 (gg + fv), x43, x44, .int .i64 fv, .int .i64 t, .agg #[.int .i64 (gg + fv), .int .i64 fv, .int .i64 t], x48, x49, by simp only [Act.put, List.setIfInBounds_toArray, List.set_cons_zero, List.set_cons_succ], fun h => B (by simpa [upb] using h), fun h => F0 (by simpa [upb] using h), fun h => by have h4 := Q11 (by simpa [upb] using h); simp [upb, h4], fun h => by have h4 := Q15 (by simpa [upb] using h); simp [upb, h4], fun h => p34 (by simpa [upb] using h), fun h => p35 (by simpa [upb] using h), fun h => p36 (by simpa [upb] using h), fun h => p37 (by simpa [upb] using h), fun h => p38 (by simpa [upb] using h), fun h => p39 (by simpa [upb] using h), fun h => p40 (by simpa [upb] using h), fun h => p41 (by simpa [upb] using h), fun _ => rfl, fun h => p43 (by simpa [upb] using h), fun h => p44 (by simpa [upb] using h), fun _ => rfl, fun _ => rfl, fun _ => rfl, fun h => p48 (by simpa [upb] using h)⟩
      case op14 =>
        rintro bb _ w' ⟨x34, x35, x36, x37, x38, x39, x40, x41, x42, x43, x44, x45, x46, x47, x48, x49, rfl, B, F0, Q11, Q15, p34, p35, p36, p37, p38, p39, p40, p41, p42, p43, p44, p45, p46, p47, p48⟩ hb hd K hK
        simp only [Act.put, List.setIfInBounds_toArray, List.set_cons_zero, List.set_cons_succ]
        obtain rfl := (p47 (hd 13 (by decide))).symm
        rw [if_pos (by rfl)]
        go_simp
        exact hK _ _ ⟨x34, x35, x36, x37, x38, x39, x40, x41, x42, x43, x44, x45, x46, .agg #[.int .i64 (gg + fv), .int .i64 fv, .int .i64 t], .iface 51 (.agg #[.int .i64 (gg + fv), .int .i64 fv, .int .i64 t]), x49, by simp only [Act.put, List.setIfInBounds_toArray, List.set_cons_zero, List.set_cons_succ], fun h => B (by simpa [upb] using h), fun h => F0 (by simpa [upb] using h), fun h => by have h4 := Q11 (by simpa [upb] using h); simp [upb, h4], fun h => by have h4 := Q15 (by simpa [upb] using h); simp [upb, h4], fun h => p34 (by simpa [upb] using h), fun h => p35 (by simpa [upb] using h), fun h => p36 (by simpa [upb] using h), fun h => p37 (by simpa [upb] using h), fun h => p38 (by simpa [upb] using h), fun h => p39 (by simpa [upb] using h), fun h => p40 (by simpa [upb] using h), fun h => p41 (by simpa [upb] using h), fun h => p42 (by simpa [upb] using h), fun h => p43 (by simpa [upb] using h), fun h => p44 (by simpa [upb] using h), fun h => p45 (by simpa [upb] using h), fun h => p46 (by simpa [upb] using h), fun _ => rfl, fun _ => rfl⟩
      case op15 =>
        rintro bb _ w' ⟨x34, x35, x36, x37, x38, x39, x40, x41, x42, x43, x44, x45, x46, x47, x48, x49, rfl, B, F0, Q11, Q15, p34, p35, p36, p37, p38, p39, p40, p41, p42, p43, p44, p45, p46, p47, p48⟩ hb hd K hK
        simp only [Act.put, List.setIfInBounds_toArray, List.set_cons_zero, List.set_cons_succ]
        obtain rfl := (p37 (hd 3 (by decide))).symm
        obtain rfl := (p48 (hd 14 (by decide))).symm
        rw [if_pos (by rfl)]
        go_simp
        refine (PC.out _ (B hb)).mono ?_
        rintro e w2 ⟨rfl, v1, hp1, hk1, hm1⟩
        have hfin : ∃ v', Hp w w2 g q v' (hp_push l ⟨gg + fv, fv, t⟩) ∧ KeepBut W2 w2 g v.ownBlock ∧ Mv W2 v v' := ⟨v1, hp1, KeepBut.trans (KeepBut.of_below (B hb) g v.ownBlock) hk1 (.inl rfl), Mv.trans (Mv.refl _ _) hm1 (B hb).size⟩
        exact hK _ _ ⟨x34, x35, x36, .iface 69 (.pointer (some ⟨g, 6, none⟩)), x38, x39, x40, x41, x42, x43, x44, x45, x46, x47, .iface 51 (.agg #[.int .i64 (gg + fv), .int .i64 fv, .int .i64 t]), .tuple #[], by simp only [Act.put, List.setIfInBounds_toArray, List.set_cons_zero, List.set_cons_succ], fun h => absurd h (by simp [upb]), fun _ => hfin, fun h => by have h4 := Q11 (by simpa [upb] using h); simp [upb, h4], fun _ => by have := hd 11 (by decide); simp [upb, this], fun h => p34 (by simpa [upb] using h), fun h => p35 (by simpa [upb] using h), fun h => p36 (by simpa [upb] using h), fun _ => rfl, fun h => p38 (by simpa [upb] using h), fun h => p39 (by simpa [upb] using h), fun h => p40 (by simpa [upb] using h), fun h => p41 (by simpa [upb] using h), fun h => p42 (by simpa [upb] using h), fun h => p43 (by simpa [upb] using h), fun h => p44 (by simpa [upb] using h), fun h => p45 (by simpa [upb] using h), fun h => p46 (by simpa [upb] using h), fun h => p47 (by simpa [upb] using h), fun _ => rfl⟩
      case done =>
        rintro bb _ w' hb ⟨x34, x35, x36, x37, x38, x39, x40, x41, x42, x43, x44, x45, x46, x47, x48, x49, rfl, B, F0, Q11, Q15, p34, p35, p36, p37, p38, p39, p40, p41, p42, p43, p44, p45, p46, p47, p48⟩
        obtain rfl := (p34 (hb 0 (by decide))).symm
        obtain rfl := (p35 (hb 1 (by decide))).symm
        obtain rfl := (p36 (hb 2 (by decide))).symm
        obtain rfl := (p37 (hb 3 (by decide))).symm
        obtain rfl := (p38 (hb 4 (by decide))).symm
        obtain rfl := (p39 (hb 5 (by decide))).symm
        obtain rfl := (p40 (hb 6 (by decide))).symm
        obtain rfl := (p41 (hb 7 (by decide))).symm
        obtain rfl := (p42 (hb 8 (by decide))).symm
        obtain rfl := (p43 (hb 9 (by decide))).symm
        obtain rfl := (p44 (hb 10 (by decide))).symm
        obtain rfl := (p45 (hb 11 (by decide))).symm
        obtain rfl := (p46 (hb 12 (by decide))).symm
        obtain rfl := (p47 (hb 13 (by decide))).symm
        obtain rfl := (p48 (hb 14 (by decide))).symm
        simp only [Act.put, List.setIfInBounds_toArray, List.set_cons_zero, List.set_cons_succ]
        obtain ⟨v1, hp1, hk1, hm1⟩ := F0 (hb 15 (by decide))
        have HF := Lib.hid (show Ss w w' g q v1 (hp_push l ⟨gg + fv, fv, t⟩) (sUp F t (gg, by_, false)) from (HS2.out.push hp1 hk1))
        have HK := Lib.hid hk1
        have HM := Lib.hid hm1
        clear B F0 Q11 Q15 hb FC PC hp1 hk1 hm1
        go_wp2_with fail
        first | go_end0 | ((try simp only [Exit.inBlock, Exit.then]); refine bodyPost_ret (results_none rfl _ _ _) rfl ?_)
        exact ⟨rfl, v1, by first | exact HF.out | (rw [hl1, hF1]; exact HF.out), Fr.trans HFr.out (Fr.of_keep HK.out _) (.inl rfl), Mv.trans (Mv.refl W v) HM.out HFr.out.1⟩
end Go.Proofs.Ytkbimhngbdbgdaa.PPathFinds
