/- Path: the law PathShort: the walk. No condition. -/
import Derived.Test.YtkbimhngbdbgdaaSk
import Derived.Deep.CutRange
import Derived.Deep.CutBlock
namespace Go.Proofs.Ytkbimhngbdbgdaa.PPathFinds
open Go.RowKit Go.Proofs.Ytkbimhngbdbgdaa.Pure Go.Proofs.YtkbimhngbdbgdaaW.PrintWords Go.Proofs.YtkbimhngbdbgdaaW.PrintLast Go.Proofs.YtkbimhngbdbgdaaW.PrintMore
attribute [local go_sem] max2_int min2_int max_two min_two max_three min_three max_four min_four   -- for this text's walks alone
set_option linter.unusedVariables false
set_option linter.unusedSimpArgs false
set_option maxHeartbeats 8000000
set_option maxRecDepth 20000
theorem up_ {c : Nat → Bool} {i j : Nat} {p : Prop} (h : c j = true → p) (hne : j ≠ i := by decide) : upb c i j = true → p := fun hu => h (by simpa [upb, hne] using hu)
theorem short_walk (a bh : Int) (s : ByteArray) (A1 : Option Addr) (c1 : Nat) (busy : List Int) (from_ goal near : Int) (w : World) (hC : Kd.C (Kd.int .i64) w A1 busy.length busy) (hc1 : busy.length ≤ c1) (hn : near ≤ 9223372036854775807) :
    Calls Try.prog 4 #[.int .i64 a, .int .i64 bh, .string s, .slice A1 busy.length c1, .int .i64 from_, .int .i64 goal, .int .i64 near] w fun e W' => e = .returned (.bool true) ∧ Below w.heap.size w W' := by
  have WK := Lib.hid (fun W => wakes_calls W)
  have HCC := Lib.hid hC
  by_cases hb1 : (400 : Int) < s.size
  · have d1 : decide ((400 : Int) < s.size) = true := decide_eq_true hb1
    clear hC
    go_enter Try.func4, Try.ntmps4
    go_wp2_with (first | (refine (WK.out _).mono ?_; rintro e w1 ⟨rfl, hb⟩; have HB1 := Lib.hid hb; clear hb WK) | fail)
    go_ret
    exact ⟨rfl, HB1.out⟩
  by_cases hb2 : (100 : Int) < busy.length
  · have d1 : decide ((400 : Int) < s.size) = false := decide_eq_false hb1
    have d2 : decide ((100 : Int) < busy.length) = true := decide_eq_true hb2
    clear hC
    go_enter Try.func4, Try.ntmps4
    go_wp2_with (first | (refine (WK.out _).mono ?_; rintro e w1 ⟨rfl, hb⟩; have HB1 := Lib.hid hb; clear hb WK) | fail)
    go_ret
    exact ⟨rfl, HB1.out⟩
  have d1 : decide ((400 : Int) < s.size) = false := decide_eq_false hb1
  have d2 : decide ((100 : Int) < busy.length) = false := decide_eq_false hb2
  by_cases hok : grid_ok a bh s
  rotate_left
  · have hnew : grid_New.f a bh s = some (0, 0, ⟨#[]⟩, 2) := by unfold grid_New.f; rw [if_neg hok]
    have NC := Lib.hid (fun W => grid_New.calls a bh s 0 0 ⟨#[]⟩ 2 W hnew)
    clear hC hnew
    go_enter Try.func4, Try.ntmps4
    go_wp2_with (first
      | (refine (NC.out _).mono ?_; rintro e w1 ⟨rfl, hb⟩; have hba := below_alloc (Below.refl w1.heap.size w1) (.cells #[.int .i64 0, .int .i64 0, .string ⟨#[]⟩] 25); have HB1 := Lib.hid (below_then hb hb.size hba); clear NC hb hba)
      | (refine (WK.out _).mono ?_; rintro e w4 ⟨rfl, hb⟩; have HB4 := Lib.hid (below_then HB1.out HB1.out.size hb); clear hb WK)
      | fail)
    go_ret
    exact ⟨rfl, HB4.out⟩
  have hO : Okd a bh s := ⟨by have := hok.1; omega, hok.2.1, by have := hok.2.2.1; omega, hok.2.2.2.1, hok.2.2.2.2.1⟩
  have h2 : 2 ≤ a := by have := hok.1; omega
  have hnew : grid_New.f a bh s = some (a, bh, s, 0) := by unfold grid_New.f; rw [if_pos hok]
  have NC := Lib.hid (fun W => grid_New.calls a bh s a bh s 0 W hnew)
  have O1 := Lib.hid (fun W => grid_Map_On.calls a bh s from_ _ W (on_g a bh s from_))
  have O2 := Lib.hid (fun W => grid_Map_On.calls a bh s goal _ W (on_g a bh s goal))
  clear hnew hok
  by_cases hof : onB s from_ = true
  rotate_left
  · rw [show onB s from_ = false by simpa using hof] at O1
    clear hC
    go_enter Try.func4, Try.ntmps4
    go_wp2_with (first
      | (refine (NC.out _).mono ?_; rintro e w1 ⟨rfl, hb⟩; have hba := below_alloc (Below.refl w1.heap.size w1) (.cells #[.int .i64 a, .int .i64 bh, .string s] 25); have HB1 := Lib.hid (below_then hb hb.size hba); clear NC hb hba)
      | (refine (O1.out _).mono ?_; rintro e w8 ⟨rfl, hb⟩; have HB8 := Lib.hid (below_then HB1.out HB1.out.size hb); clear O1 hb HB1)
      | (refine (WK.out _).mono ?_; rintro e w4 ⟨rfl, hb⟩; have HB4 := Lib.hid (below_then HB8.out HB8.out.size hb); clear hb WK)
      | fail)
    go_ret
    exact ⟨rfl, HB4.out⟩
  by_cases hog : onB s goal = true
  rotate_left
  · rw [hof] at O1
    rw [show onB s goal = false by simpa using hog] at O2
    clear hC
    go_enter Try.func4, Try.ntmps4
    go_wp2_with (first
      | (refine (NC.out _).mono ?_; rintro e w1 ⟨rfl, hb⟩; have hba := below_alloc (Below.refl w1.heap.size w1) (.cells #[.int .i64 a, .int .i64 bh, .string s] 25); have HB1 := Lib.hid (below_then hb hb.size hba); have HK := Lib.hid (blk_new w1 (.cells #[.int .i64 a, .int .i64 bh, .string s] 25)); clear NC hb hba)
      | (refine (O1.out _).mono ?_; rintro e w8 ⟨rfl, hb⟩; have HB8 := Lib.hid (below_then HB1.out HB1.out.size hb); obtain ⟨c0, c1', c2⟩ := cells3 ((hb.block _ (blk_lt HK.out)).trans HK.out); clear O1 hb HB1 HK)
      | (refine (O2.out _).mono ?_; rintro e w2 ⟨rfl, hb⟩; have HB2 := Lib.hid (below_then HB8.out HB8.out.size hb); clear O2 hb HB8 c0 c1' c2)
      | (refine (WK.out _).mono ?_; rintro e w4 ⟨rfl, hb⟩; have HB4 := Lib.hid (below_then HB2.out HB2.out.size hb); clear hb WK)
      | fail)
    go_ret
    exact ⟨rfl, HB4.out⟩
  rw [hof] at O1
  rw [hog] at O2
  by_cases hnn : near < 0
  · have d3 : decide (near < 0) = true := decide_eq_true hnn
    clear hC
    go_enter Try.func4, Try.ntmps4
    go_wp2_with (first
      | (refine (NC.out _).mono ?_; rintro e w1 ⟨rfl, hb⟩; have hba := below_alloc (Below.refl w1.heap.size w1) (.cells #[.int .i64 a, .int .i64 bh, .string s] 25); have HB1 := Lib.hid (below_then hb hb.size hba); have HK := Lib.hid (blk_new w1 (.cells #[.int .i64 a, .int .i64 bh, .string s] 25)); clear NC hb hba)
      | (refine (O1.out _).mono ?_; rintro e w8 ⟨rfl, hb⟩; have HB8 := Lib.hid (below_then HB1.out HB1.out.size hb); obtain ⟨c0, c1', c2⟩ := cells3 ((hb.block _ (blk_lt HK.out)).trans HK.out); clear O1 hb HB1 HK)
      | (refine (O2.out _).mono ?_; rintro e w2 ⟨rfl, hb⟩; have HB2 := Lib.hid (below_then HB8.out HB8.out.size hb); clear O2 hb HB8 c0 c1' c2)
      | (refine (WK.out _).mono ?_; rintro e w4 ⟨rfl, hb⟩; have HB4 := Lib.hid (below_then HB2.out HB2.out.size hb); clear hb WK)
      | fail)
    go_ret
    exact ⟨rfl, HB4.out⟩
  have d3 : decide (near < 0) = false := decide_eq_false hnn
  obtain ⟨R, hRl, hG, hFind⟩ := find_short hO h2 ⟨by omega, hn⟩ hof hog (by omega) busy (by omega)
  obtain ⟨v0, hbf, hv1, hv2⟩ := bf_good hO (B := fun x => decide (x ∈ busy)) (near := near) (by omega) hog hof (by omega)
  obtain ⟨hneg, hpos⟩ := both_good hG hv1 hv2
  have HBF := Lib.hid hbf
  have HNEG := Lib.hid hneg
  have HPOS := Lib.hid hpos
  have FC := Lib.hid hFind
  clear hC hG hFind hbf hv1 hv2 hneg hpos
  go_enter Try.func4, Try.ntmps4
  go_wp2_with (first
    | (refine (NC.out _).mono ?_; rintro e w1 ⟨rfl, hb⟩; have hba := below_alloc (Below.refl w1.heap.size w1) (.cells #[.int .i64 a, .int .i64 bh, .string s] 25); have HB1 := Lib.hid (below_then hb hb.size hba); have HK := Lib.hid (blk_new w1 (.cells #[.int .i64 a, .int .i64 bh, .string s] 25)); clear NC hb hba)
    | (refine (O1.out _).mono ?_; rintro e w8 ⟨rfl, hb⟩; have HB8 := Lib.hid (below_then HB1.out HB1.out.size hb); have HK8 := Lib.hid ((hb.block _ (blk_lt HK.out)).trans HK.out); obtain ⟨c0, c1', c2⟩ := cells3 HK8.out; clear O1 hb HB1 HK)
    | (refine (O2.out _).mono ?_; rintro e w2 ⟨rfl, hb⟩; have HB2 := Lib.hid (below_then HB8.out HB8.out.size hb); have HK2 := Lib.hid ((hb.block _ (blk_lt HK8.out)).trans HK8.out); have mk := run_makeMap (P := Try.prog) 32 w2; clear O2 hb HB8 HK8 c0 c1' c2)
    | fail)
  have hs : (w2.alloc (.map #[] 0)).heap.size = w2.heap.size + 1 := by simp
  have hba2 := below_alloc (below_alloc (Below.refl w2.heap.size w2) (.map #[] 0)) (.cells #[.map (some w2.heap.size)] 32)
  have HB3 := Lib.hid (below_then HB2.out HB2.out.size hba2)
  have HK3 := Lib.hid ((hba2.block _ (blk_lt HK2.out)).trans HK2.out)
  have hn19 := blk_new (w2.alloc (.map #[] 0)) (.cells #[.map (some w2.heap.size)] 32)
  rw [hs] at hn19
  have H19 := Lib.hid hn19
  have hf0 : (fun _ => none : Int → Option Value) = fm busy 0 := by funext k; unfold fm; simp
  have hm0 := (map_new w2).keep ((below_alloc (Below.refl (w2.alloc (.map #[] 0)).heap.size (w2.alloc (.map #[] 0))) (.cells #[.map (some w2.heap.size)] 32)).block w2.heap.size (by rw [hs]; omega))
  rw [hf0] at hm0
  have HM := Lib.hid hm0
  have hgw := HB2.out.size
  clear hs hba2 hn19 hf0 hm0 HB2 HK2 mk
  generalize w2.heap.size + 1 = k19 at H19 ⊢
  generalize w1.heap.size = kb at HK3 ⊢
  generalize w2.heap.size = gm at HM hgw H19 HK3 HB3 ⊢
  go_loopg [18] (busy.length + 1) (fun kq v18 w' => ∃ i : Nat, v18 = .int .i64 (i : Int) ∧ i + kq = busy.length + 1 ∧ i ≤ busy.length ∧ RowKit.Hid (w'.heap[kb]? = some (.cells #[.int .i64 a, .int .i64 bh, .string s] 25 (0, 0))) ∧ RowKit.Hid (w'.heap[k19]? = some (.cells #[.map (some gm)] 32 (0, 0))) ∧ RowKit.Hid (MapIs w' gm (fm busy i)) ∧ RowKit.Hid (Below w.heap.size w w'))
  case atStart => exact ⟨0, rfl, by omega, by omega, HK3, H19, HM, HB3⟩
  case round =>
    clear HK3 H19 HM HB3
    obtain ⟨i, rfl, hik, hil, HK, H19, HM, HB⟩ := hrel
    cases gk with
    | zero => omega
    | succ k1 =>
      by_cases hin : i < busy.length
      · have di : decide ((i : Int) < (busy.length : Int)) = true := decide_eq_true (by omega)
        have c19 : wr.cell? ⟨k19, 0, none⟩ = some (.map (some gm)) := (blk_cell H19.out 0).trans rfl
        obtain ⟨x, hx⟩ : ∃ x, busy[i] = x := ⟨_, rfl⟩
        obtain ⟨ad, e1, hx0⟩ := Kd.at_int (Kd.C_below HCC.out HB.out) (i : Int) (by omega) (by omega)
        have hrd : rd busy (i : Int) = x := by unfold rd; rw [Int.toNat_natCast, List.getD_eq_getElem?_getD, List.getElem?_eq_getElem hin, hx]; rfl
        rw [hrd, Int.toNat_natCast] at hx0
        obtain ⟨W6, hrun, hm6, hbut⟩ := map_put (W := wr.drew) Try.underlying32 (HM.out.keep rfl) x (.bool true)
        rw [← hx, fm_step busy i hin] at hm6
        have HMM := Lib.hid hm6
        have HKB := Lib.hid ((hbut.block kb (HM.out.ne_cells HK.out)).trans HK.out)
        have HK19 := Lib.hid ((hbut.block k19 (HM.out.ne_cells H19.out)).trans H19.out)
        have hbd := below_drew1 HB.out
        have HBB := Lib.hid (show Below w.heap.size w W6 from ⟨hbut.os.trans hbd.os, hbut.tape.trans hbd.tape, hbut.output.trans hbd.output, by rw [hbut.size]; exact hbd.size, fun k hk => (hbut.block k (by omega)).trans (hbd.block k hk)⟩)
        have HA1 := Lib.hid e1
        subst e1
        clear hrd hx hm6 hbut hbd HM HK H19 HB
        go_upto_region 10 with fail
        refine wp_region_inv (fun a0 w_0 b a' w' => ∃ x73 x74 x75 x76 x77 : Value, a' = (((((a0.put (some 73) x73).put (some 74) x74).put (some 75) x75).put (some 76) x76).put (some 77) x77) ∧ (b 5 = false → w' = wr.drew) ∧ (b 5 = true → b 0 = true ∧ b 4 = true) ∧ (b 5 = true → w' = W6) ∧ (b 0 = true → x73 = .map (some gm)) ∧ (b 1 = true → x74 = .slice (some ad) busy.length c1) ∧ (b 2 = true → x75 = .int .i64 (i : Int)) ∧ (b 3 = true → x76 = .pointer (some (ad.add i))) ∧ (b 4 = true → x77 = .int .i64 x)) (by kernel_rfl) (by kernel_rfl) ?start ⟨?op0, ?op1, ?op2, ?op3, ?op4, ?op5, trivial⟩ ?done
        case start => exact ⟨_, _, _, _, _, by simp only [Act.put, List.setIfInBounds_toArray, List.set_cons_zero, List.set_cons_succ]; rfl, fun _ => rfl, fun h => absurd h (by decide), fun h => absurd h (by decide), fun h => absurd h (by decide), fun h => absurd h (by decide), fun h => absurd h (by decide), fun h => absurd h (by decide), fun h => absurd h (by decide)⟩
        case op0 => as_aux_lemma =>
          intro bb a_ w' h_
          obtain ⟨x73, x74, x75, x76, x77, h_⟩ := h_
          obtain ⟨e_, h_⟩ := h_
          subst e_
          obtain ⟨A0, Q5, F0, p73, p74, h_⟩ := h_
          obtain ⟨p75, p76, h_⟩ := h_
          have p77 := h_
          clear h_
          intro hb hd K hK
          simp only [Act.put, List.setIfInBounds_toArray, List.set_cons_zero, List.set_cons_succ]
          rw [if_pos (by rfl)]
          have h5 : bb 5 = false := by cases h : bb 5 with | false => rfl | true => exact absurd ((Q5 h).1) (by rw [hb]; decide)
          obtain rfl := A0 h5
          go_simp
          exact hK _ _ ⟨.map (some gm), x74, x75, x76, x77, by simp only [Act.put, List.setIfInBounds_toArray, List.set_cons_zero, List.set_cons_succ], fun h => A0 (by simpa [upb] using h), fun h => by have h4 := Q5 (by simpa [upb] using h); simp [upb, h4.1, h4.2], fun h => F0 (by simpa [upb] using h), fun _ => rfl, up_ p74, up_ p75, up_ p76, up_ p77⟩
        case op1 => as_aux_lemma =>
          intro bb a_ w' h_
          obtain ⟨x73, x74, x75, x76, x77, h_⟩ := h_
          obtain ⟨e_, h_⟩ := h_
          subst e_
          obtain ⟨A0, Q5, F0, p73, p74, h_⟩ := h_
          obtain ⟨p75, p76, h_⟩ := h_
          have p77 := h_
          clear h_
          intro hb hd K hK
          simp only [Act.put, List.setIfInBounds_toArray, List.set_cons_zero, List.set_cons_succ]
          rw [if_pos (by rfl)]
          go_simp
          exact hK _ _ ⟨x73, .slice (some ad) busy.length c1, x75, x76, x77, by simp only [Act.put, List.setIfInBounds_toArray, List.set_cons_zero, List.set_cons_succ], fun h => A0 (by simpa [upb] using h), fun h => by have h4 := Q5 (by simpa [upb] using h); simp [upb, h4.1, h4.2], fun h => F0 (by simpa [upb] using h), up_ p73, fun _ => rfl, up_ p75, up_ p76, up_ p77⟩
        case op2 => as_aux_lemma =>
          intro bb a_ w' h_
          obtain ⟨x73, x74, x75, x76, x77, h_⟩ := h_
          obtain ⟨e_, h_⟩ := h_
          subst e_
          obtain ⟨A0, Q5, F0, p73, p74, h_⟩ := h_
          obtain ⟨p75, p76, h_⟩ := h_
          have p77 := h_
          clear h_
          intro hb hd K hK
          simp only [Act.put, List.setIfInBounds_toArray, List.set_cons_zero, List.set_cons_succ]
          rw [if_pos (by rfl)]
          go_simp
          exact hK _ _ ⟨x73, x74, .int .i64 (i : Int), x76, x77, by simp only [Act.put, List.setIfInBounds_toArray, List.set_cons_zero, List.set_cons_succ], fun h => A0 (by simpa [upb] using h), fun h => by have h4 := Q5 (by simpa [upb] using h); simp [upb, h4.1, h4.2], fun h => F0 (by simpa [upb] using h), up_ p73, up_ p74, fun _ => rfl, up_ p76, up_ p77⟩
        case op3 => as_aux_lemma =>
          intro bb a_ w' h_
          obtain ⟨x73, x74, x75, x76, x77, h_⟩ := h_
          obtain ⟨e_, h_⟩ := h_
          subst e_
          obtain ⟨A0, Q5, F0, p73, p74, h_⟩ := h_
          obtain ⟨p75, p76, h_⟩ := h_
          have p77 := h_
          clear h_
          intro hb hd K hK
          simp only [Act.put, List.setIfInBounds_toArray, List.set_cons_zero, List.set_cons_succ]
          obtain rfl := (p74 (hd 1 (by decide))).symm
          obtain rfl := (p75 (hd 2 (by decide))).symm
          rw [if_pos (by rfl)]
          go_simp
          exact hK _ _ ⟨x73, .slice (some ad) busy.length c1, .int .i64 (i : Int), .pointer (some (ad.add i)), x77, by simp only [Act.put, List.setIfInBounds_toArray, List.set_cons_zero, List.set_cons_succ], fun h => A0 (by simpa [upb] using h), fun h => by have h4 := Q5 (by simpa [upb] using h); simp [upb, h4.1, h4.2], fun h => F0 (by simpa [upb] using h), up_ p73, fun _ => rfl, fun _ => rfl, fun _ => rfl, up_ p77⟩
        case op4 => as_aux_lemma =>
          intro bb a_ w' h_
          obtain ⟨x73, x74, x75, x76, x77, h_⟩ := h_
          obtain ⟨e_, h_⟩ := h_
          subst e_
          obtain ⟨A0, Q5, F0, p73, p74, h_⟩ := h_
          obtain ⟨p75, p76, h_⟩ := h_
          have p77 := h_
          clear h_
          intro hb hd K hK
          simp only [Act.put, List.setIfInBounds_toArray, List.set_cons_zero, List.set_cons_succ]
          obtain rfl := (p76 (hd 3 (by decide))).symm
          rw [if_pos (by rfl)]
          have h5 : bb 5 = false := by cases h : bb 5 with | false => rfl | true => exact absurd ((Q5 h).2) (by rw [hb]; decide)
          obtain rfl := A0 h5
          go_simp
          exact hK _ _ ⟨x73, x74, x75, .pointer (some (ad.add i)), .int .i64 x, by simp only [Act.put, List.setIfInBounds_toArray, List.set_cons_zero, List.set_cons_succ], fun h => A0 (by simpa [upb] using h), fun h => by have h4 := Q5 (by simpa [upb] using h); simp [upb, h4.1, h4.2], fun h => F0 (by simpa [upb] using h), up_ p73, up_ p74, up_ p75, fun _ => rfl, fun _ => rfl⟩
        case op5 => as_aux_lemma =>
          intro bb a_ w' h_
          obtain ⟨x73, x74, x75, x76, x77, h_⟩ := h_
          obtain ⟨e_, h_⟩ := h_
          subst e_
          obtain ⟨A0, Q5, F0, p73, p74, h_⟩ := h_
          obtain ⟨p75, p76, h_⟩ := h_
          have p77 := h_
          clear h_
          intro hb hd K hK
          simp only [Act.put, List.setIfInBounds_toArray, List.set_cons_zero, List.set_cons_succ]
          obtain rfl := (p73 (hd 0 (by decide))).symm
          obtain rfl := (p77 (hd 4 (by decide))).symm
          rw [if_pos (by rfl)]
          obtain rfl := A0 hb
          go_simp
          exact hK _ _ ⟨.map (some gm), x74, x75, x76, .int .i64 x, by simp only [Act.put, List.setIfInBounds_toArray, List.set_cons_zero, List.set_cons_succ], fun h => absurd h (by simp [upb]), fun _ => ⟨by have := hd 0 (by decide); simp [upb, this], by have := hd 4 (by decide); simp [upb, this]⟩, fun _ => rfl, fun _ => rfl, up_ p74, up_ p75, up_ p76, fun _ => rfl⟩
        case done => as_aux_lemma =>
          intro bb a_ w' hb h_
          obtain ⟨x73, x74, x75, x76, x77, h_⟩ := h_
          obtain ⟨e_, h_⟩ := h_
          subst e_
          obtain ⟨A0, Q5, F0, p73, p74, h_⟩ := h_
          obtain ⟨p75, p76, h_⟩ := h_
          have p77 := h_
          clear h_
          obtain rfl := (p73 (hb 0 (by decide))).symm
          obtain rfl := (p74 (hb 1 (by decide))).symm
          obtain rfl := (p75 (hb 2 (by decide))).symm
          obtain rfl := (p76 (hb 3 (by decide))).symm
          obtain rfl := (p77 (hb 4 (by decide))).symm
          simp only [Act.put, List.setIfInBounds_toArray, List.set_cons_zero, List.set_cons_succ]
          obtain rfl := F0 (hb 5 (by decide))
          clear A0 Q5 F0 hb hrun
          go_wp2_with fail
          go_roundg k1
          case measure => omega
          case rel => exact ⟨i + 1, by push_cast; rfl, by omega, by omega, HKB, HK19, HMM, HBB⟩
      · have di : decide ((i : Int) < (busy.length : Int)) = false := decide_eq_false (by omega)
        have hfull : ∀ t, (fm busy i t).getD (.bool false) = .bool (decide (t ∈ busy)) := fun t => by
          unfold fm
          rw [List.take_of_length_le (by omega)]
          by_cases ht : t ∈ busy
          · rw [if_pos ht]; simp [ht]
          · rw [if_neg ht]; simp [ht]
        have HFULL := Lib.hid hfull
        have c19 : wr.cell? ⟨k19, 0, none⟩ = some (.map (some gm)) := (blk_cell H19.out 0).trans rfl
        obtain ⟨c0, c1', c2⟩ := cells3 HK.out
        have F2 := Lib.hid (FC.out wr (.func (.func 12) #[] #[.pointer (some ⟨k19, 0, none⟩)]) (.inr (.inr ⟨⟨k19, 0, none⟩, gm, fm busy i, rfl, c19, HM.out, hfull⟩)))
        clear FC hfull
        obtain ⟨⟨r1, r2⟩, hR⟩ : ∃ R', R = R' := ⟨_, rfl⟩
        subst hR
        simp only at hRl
        go_wp2_with fail
        refine F2.out.mono ?_
        rintro e w5 ⟨v5, rfl, hR, hb⟩
        obtain ⟨W7, hrun7, hm7, hbut7⟩ := map_put (W := w5.alloc (.map #[] 0)) Try.underlying38 (map_new w5) from_ (.int .i64 0)
        have mk := run_makeMap (P := Try.prog) 38 w5
        obtain ⟨A5, n5, hv5⟩ := Kd.R_slice hR
        subst hv5
        have HST := Lib.hid (fun (v9 : Value) (w9 : World) (ho9 : Kd.R (Kd.int .i64) 3 w9 W7.heap.size (fun _ => True) v9 [from_]) (hb9 : Below W7.heap.size W7 w9) => Wk.start (w := w) (a := a) (b := bh) (s := s) (below_then HB.out HB.out.size hb) ((hb.block _ (blk_lt HK.out)).trans HK.out) ((hb.block _ (blk_lt H19.out)).trans H19.out) (HM.out.keep (hb.block _ HM.out.lt)) hR HB.out.size hm7 hbut7 ho9 hb9)
        clear F2 hR hb HB HK H19 HM c0 c1' c2 c19 hm7 hbut7
        go_upto_block 2 with (first | ((with_reducible refine gate_dst (N := 91) rfl ?_); refine Kd.R_lit (Kd.int .i64) _ 3 ?hg (N := 91) ?hd (xs := ([from_] : List Int)) (inner := [.int .i64 from_]) (ok := fun _ => True) (okp := fun _ => True) ?hr ?hp (fun _ hk => hk) trivial (Below.refl _ _) (Nat.le_refl _) (by simp) ?_; (case hd => rfl); (case hg => rfl); (case hr => first | (go_simp; done) | (go_simp; rfl)); (case hp => exact (Reps.one (show Kd.M (Kd.int .i64) _ _ _ from_ [.int .i64 from_] from rfl) (Reps.none _ _))); intro v9 w9 ho9 hb9 hg9 hnew9; have HW0 := Lib.hid (HST.out v9 w9 ho9 hb9); clear ho9 hb9 hg9 hnew9 HST hrun7 mk) | fail)
        generalize w5.heap.size = gs at HW0 ⊢
        go_cut [22, 23, 24, 25, 26, 27, 28] from 92 to 165 (fun v22 v23 v24 v25 v26 v27 v28 wc => ∃ (S : Stp) (work : List Int) (vk : Value), vk = v22 ∧ v23 = .int .i64 v0 ∧ RowKit.Hid (Wk w wc kb k19 gm gs a bh s (fm busy i) S (.slice A5 r1.length n5) r1 vk work))
        case first =>
          go_wp2_with fail
          go_loopg [22, 23] 500 (fun kq v22 v23 w' => ∃ (S : Stp) (work : List Int) (least : Int), v23 = .int .i64 least ∧ RowKit.Hid (bf a bh s (fun x => decide (x ∈ busy)) goal near kq S work least = some v0) ∧ RowKit.Hid (Wk w w' kb k19 gm gs a bh s (fm busy i) S (.slice A5 r1.length n5) r1 v22 work))
          case atStart => exact ⟨_, _, _, rfl, HBF, HW0⟩
          case round =>
            clear HW0 HBF
            obtain ⟨S, work, least, rfl, HE, HW⟩ := hrel
            have hE := HE.out
            clear HE
            cases gk with
            | zero => unfold bf at hE; cases hE
            | succ k1 =>
              unfold bf at hE
              obtain ⟨A2, c2w, hv, hcw⟩ := Kd.Q_slice HW.out.own
              subst hv
              obtain hw | ⟨t, r, hw⟩ : work = [] ∨ ∃ t r, work = t :: r := by
                cases work with
                | nil => exact .inl rfl
                | cons t r => exact .inr ⟨t, r, rfl⟩
              · rw [hw] at hE
                obtain rfl := Option.some.inj hE
                have d0 : decide ((0 : Int) < (work.length : Int)) = false := decide_eq_false (by rw [hw]; simp)
                have hwn : ¬ 0 < work.length := by rw [hw]; simp
                have hwm : ¬ (0 : Int) < (work.length : Int) := by omega
                clear hE hw
                go_wp2
                go_meet
                exact ⟨_, _, _, rfl, rfl, HW⟩
              · rw [hw] at hE
                simp only at hE
                have d0 : decide ((0 : Int) < (work.length : Int)) = true := decide_eq_true (by rw [hw]; first | (simp; done) | (simp; omega))
                by_cases hl : least < 0
                rotate_left
                · rw [if_neg hl] at hE
                  obtain rfl := Option.some.inj hE
                  have dl : decide (least < 0) = false := decide_eq_false hl
                  have hwp : 0 < work.length := by rw [hw]; simp
                  have hwq : (0 : Int) < (work.length : Int) := by omega
                  clear hE hw
                  go_wp2
                  go_meet
                  exact ⟨_, _, _, rfl, rfl, HW⟩
                rw [if_pos hl] at hE
                have dl : decide (least < 0) = true := decide_eq_true hl
                obtain ⟨d, hd, hE⟩ := Option.bind_eq_some_iff.1 hE
                obtain ⟨nx, hnx, hE⟩ := Option.bind_eq_some_iff.1 hE
                obtain ⟨⟨S9, wl9⟩, hbi, hE⟩ := Option.bind_eq_some_iff.1 hE
                simp only at hE
                obtain ⟨l2, hl2⟩ : ∃ z, (if d ≤ near then (S t).getD 0 else least) = z := ⟨_, rfl⟩
                rw [hl2] at hE
                have hnl : nx.length ≤ 4 := by
                  unfold grid_Map_Next.f at hnx
                  split at hnx
                  · split at hnx
                    · obtain rfl := Option.some.inj hnx
                      exact grid_nextA_len a bh t 4
                    · obtain rfl := Option.some.inj hnx
                      simp
                  · cases hnx
                have HE9 := Lib.hid hE
                have HBI := Lib.hid hbi
                have HL2 := Lib.hid hl2
                have FC := Lib.hid (fun W => grid_Map_Far.calls 5 a bh s t goal d W hd)
                have NX := Lib.hid (fun W => grid_Map_Next.calls a bh s t nx W hnx)
                clear hE hbi hl2 hd hnx
                obtain ⟨ad2, e1, hx0⟩ := Kd.at_int (Kd.Q_reads' HW.out.own).2.2 (0 : Int) (by omega) (by rw [hw]; first | (simp; done) | (simp; omega))
                subst e1
                have hrd : rd work (0 : Int) = t := by rw [hw]; rfl
                rw [hrd, show ((0 : Int)).toNat = 0 from rfl] at hx0
                (try rw [Addr.add_zero'] at hx0)
                obtain ⟨A3, c3w, hcut, hW3⟩ := HW.out.cut hw
                have HW3 := Lib.hid hW3
                have hwp : 0 < work.length := by rw [hw]; simp
                have hwq : (0 : Int) < (work.length : Int) := by omega
                obtain ⟨c0, c1', c2⟩ := cells3 HW.out.blk
                obtain ⟨bdn, hbdn⟩ : ∃ z, decide (d ≤ near) = z := ⟨_, rfl⟩
                clear hrd hW3 hw
                go_wp2_with fail
                refine (FC.out _).mono ?_
                rintro e w11 ⟨rfl, hb⟩
                have HW1 := Lib.hid (HW3.out.next hb)
                clear FC hb c0 c1' c2
                go_upto_if 109 with fail
                go_cut [23] from 92 to 165 (fun v23 wc => v23 = .int .i64 l2 ∧ RowKit.Hid (Wk w wc kb k19 gm gs a bh s (fm busy i) S (.slice A5 r1.length n5) r1 (.slice A3 r.length c3w) r))
                case first =>
                  obtain ⟨gt, hgt⟩ : ∃ z, (S t).getD 0 = z := ⟨_, rfl⟩
                  have hl1 := HW1.out.look t hgt
                  have hl2 := HL2.out
                  rw [hgt] at hl2
                  clear hgt
                  cases bdn with
                  | true =>
                    rw [if_pos (of_decide_eq_true hbdn)] at hl2
                    subst hl2
                    go_wp2_with fail
                    go_meet
                    exact ⟨rfl, HW1⟩
                  | false =>
                    rw [if_neg (of_decide_eq_false hbdn)] at hl2
                    subst hl2
                    go_wp2_with fail
                    go_meet
                    exact ⟨rfl, HW1⟩
                case rest =>
                  clear HW1
                  obtain ⟨rfl, HW1⟩ := hcut
                  obtain ⟨c0, c1', c2⟩ := cells3 HW1.out.blk
                  clear hbdn HL2 hx0 HW HW3
                  go_wp2_with (first | (refine (NX.out _).mono ?_; rintro e w12 ⟨vn, rfl, hR, hB⟩; have HW2 := Lib.hid (HW1.out.next hB); obtain ⟨An, cn, hvn⟩ := Kd.R_slice hR; subst hvn; have HN := Lib.hid (nx_ok hR HW1.out.own HW1.out.bel.size); clear NX hR hB c0 c1' c2) | fail)
                  go_loopg [22, 26] (nx.length + 1) (fun kq v22 v26 w' => ∃ (j : Nat) (S : Stp) (wl : List Int), v26 = .int .i64 (j : Int) ∧ j + kq = nx.length + 1 ∧ j ≤ nx.length ∧ RowKit.Hid (bi a bh s (fun x => decide (x ∈ busy)) t (nx.drop j) S wl = some (S9, wl9)) ∧ RowKit.Hid (Wk w w' kb k19 gm gs a bh s (fm busy i) S (.slice A5 r1.length n5) r1 v22 wl) ∧ RowKit.Hid (Kd.Q (Kd.int .i64) 3 w' w.heap.size (fun k => True ∧ some k ≠ v22.ownBlock) (.slice An nx.length cn) nx))
                  case atStart => exact ⟨0, S, r, rfl, by omega, by omega, HBI, HW2, HN⟩
                  case round =>
                    clear HBI HW2 HN
                    obtain ⟨j, S, wl, rfl, hjk, hjl, HBI, HW, HN⟩ := hrel
                    cases gk with
                    | zero => omega
                    | succ k2 =>
                      by_cases hjn : j < nx.length
                      rotate_left
                      · have dj : decide ((j : Int) < (nx.length : Int)) = false := decide_eq_false (by omega)
                        have hbi := HBI.out
                        rw [List.drop_eq_nil_of_le (by omega)] at hbi
                        unfold bi at hbi
                        simp only [Option.some.injEq, Prod.mk.injEq] at hbi
                        obtain ⟨rfl, rfl⟩ := hbi
                        clear HBI
                        go_wp2
                        go_roundg k1
                        case measure => omega
                        case rel => exact ⟨_, _, l2, rfl, HE9, HW⟩
                      have dj : decide ((j : Int) < (nx.length : Int)) = true := decide_eq_true (by omega)
                      obtain ⟨x, hx⟩ : ∃ x, nx.getD j 0 = x := ⟨_, rfl⟩
                      have hdr : nx.drop j = x :: nx.drop (j + 1) := by
                        rw [List.drop_eq_getElem_cons hjn, ← hx, List.getD_eq_getElem?_getD, List.getElem?_eq_getElem hjn]; rfl
                      have hbi := HBI.out
                      rw [hdr] at hbi
                      unfold bi at hbi
                      clear HBI hdr
                      obtain ⟨adn, rfl⟩ := nx_some HN.out (by omega)
                      have HX := Lib.hid hx
                      have hx1 := nx_at HN.out hjn hx
                      obtain ⟨sn, hsn⟩ : ∃ z, (S x).isSome = z := ⟨_, rfl⟩
                      obtain ⟨sx, hsx⟩ : ∃ z, (S x).getD 0 = z := ⟨_, rfl⟩
                      have hlo := HW.out.look_ok x hsx hsn
                      rw [hsn] at hbi
                      obtain ⟨Av, cv, hv, -⟩ := Kd.Q_slice HW.out.own
                      subst hv
                      clear hx hsn hsx
                      cases sn with
                      | true =>
                        rw [if_pos rfl] at hbi
                        have HE2 := Lib.hid hbi
                        clear hbi
                        go_wp2
                        go_quiet (fail)
                        try go_wp2
                        go_roundg k2
                        case measure => omega
                        case rel => exact ⟨j + 1, S, wl, by push_cast; rfl, by omega, by omega, HE2, by first | exact HW | exact Lib.hid (HW.out.next (below_drew1 (Below.refl _ _))) | exact Lib.hid (HW.out.next (pw_below_drewN (Below.refl _ _) _)), by first | exact HN | exact Lib.hid (Kd.Q_below HN.out (below_drew1 (Below.refl _ _))) | exact Lib.hid (Kd.Q_below HN.out (pw_below_drewN (Below.refl _ _) _))⟩
                      | false =>
                        rw [if_neg Bool.false_ne_true] at hbi
                        obtain ⟨wk, hwk, hX⟩ := Option.bind_eq_some_iff.1 hbi
                        have WK := Lib.hid (fun W => grid_Map_Walk.calls a bh s x wk W hwk)
                        clear hbi hwk
                        obtain ⟨bx, hbx⟩ : ∃ z, decide (x ∈ busy) = z := ⟨_, rfl⟩
                        have hz := HFULL.out x
                        rw [hbx] at hz hX
                        have HZ := Lib.hid hz
                        clear hz hbx
                        cases wk with
                        | false =>
                          rw [if_neg (by simp)] at hX
                          have HE2 := Lib.hid hX
                          clear hX
                          go_upto_region 25 with fail
                          refine wp_region_inv (fun a0 w_0 b a' w' => ∃ x131 x132 x133 x134 x135 x136 x137 x138 x139 x140 x141 x142 x143 x144 x145 x146 x147 x148 x149 : Value, a' = (((((((((((((((((((a0.put (some 131) x131).put (some 132) x132).put (some 133) x133).put (some 134) x134).put (some 135) x135).put (some 136) x136).put (some 137) x137).put (some 138) x138).put (some 139) x139).put (some 140) x140).put (some 141) x141).put (some 142) x142).put (some 143) x143).put (some 144) x144).put (some 145) x145).put (some 146) x146).put (some 147) x147).put (some 148) x148).put (some 149) x149) ∧ Below wr.heap.size wr w' ∧ (b 0 = true → x131 = .bool false) ∧ (b 1 = true → x132 = .bool true) ∧ (b 2 = true → x133 = .bool true) ∧ (b 3 = true → x134 = .agg #[.int .i64 a, .int .i64 bh, .string s]) ∧ (b 4 = true → x135 = .slice (some adn) nx.length cn) ∧ (b 5 = true → x136 = .int .i64 (j : Int)) ∧ (b 6 = true → x137 = .pointer (some (adn.add j))) ∧ (b 7 = true → x138 = .int .i64 x) ∧ (b 8 = true → x139 = .bool false) ∧ (b 9 = true → x140 = .bool false) ∧ (b 10 = true → x141 = .bool false) ∧ (b 11 = true → x142 = undef) ∧ (b 12 = true → x143 = undef) ∧ (b 13 = true → x144 = undef) ∧ (b 14 = true → x145 = undef) ∧ (b 15 = true → x146 = undef) ∧ (b 16 = true → x147 = undef) ∧ (b 17 = true → x148 = undef) ∧ (b 18 = true → x149 = .bool false)) (by kernel_rfl) (by kernel_rfl) ?start ⟨?op0, ?op1, ?op2, ?op3, ?op4, ?op5, ?op6, ?op7, ?op8, ?op9, ?op10, ?op11, ?op12, ?op13, ?op14, ?op15, ?op16, ?op17, ?op18, trivial⟩ ?done
                          case start => exact ⟨_, _, _, _, _, _, _, _, _, _, _, _, _, _, _, _, _, _, _, by simp only [Act.put, List.setIfInBounds_toArray, List.set_cons_zero, List.set_cons_succ]; rfl, below_drew1 (Below.refl _ _), fun h => absurd h (by decide), fun h => absurd h (by decide), fun h => absurd h (by decide), fun h => absurd h (by decide), fun h => absurd h (by decide), fun h => absurd h (by decide), fun h => absurd h (by decide), fun h => absurd h (by decide), fun h => absurd h (by decide), fun h => absurd h (by decide), fun h => absurd h (by decide), fun h => absurd h (by decide), fun h => absurd h (by decide), fun h => absurd h (by decide), fun h => absurd h (by decide), fun h => absurd h (by decide), fun h => absurd h (by decide), fun h => absurd h (by decide), fun h => absurd h (by decide)⟩
                          case op0 => as_aux_lemma =>
                            intro bb a_ w' h_
                            obtain ⟨x131, x132, x133, x134, x135, h_⟩ := h_
                            obtain ⟨x136, x137, x138, x139, x140, h_⟩ := h_
                            obtain ⟨x141, x142, x143, x144, x145, h_⟩ := h_
                            obtain ⟨x146, x147, x148, x149, h_⟩ := h_
                            obtain ⟨e_, h_⟩ := h_
                            subst e_
                            obtain ⟨B, p131, p132, p133, p134, h_⟩ := h_
                            obtain ⟨p135, p136, p137, p138, p139, h_⟩ := h_
                            obtain ⟨p140, p141, p142, p143, p144, h_⟩ := h_
                            obtain ⟨p145, p146, p147, p148, h_⟩ := h_
                            have p149 := h_
                            clear h_
                            intro hb hd K hK
                            simp only [Act.put, List.setIfInBounds_toArray, List.set_cons_zero, List.set_cons_succ]
                            rw [if_pos (by rfl)]
                            go_simp
                            exact hK _ _ ⟨.bool false, x132, x133, x134, x135, x136, x137, x138, x139, x140, x141, x142, x143, x144, x145, x146, x147, x148, x149, by simp only [Act.put, List.setIfInBounds_toArray, List.set_cons_zero, List.set_cons_succ], B, fun _ => rfl, up_ p132, up_ p133, up_ p134, up_ p135, up_ p136, up_ p137, up_ p138, up_ p139, up_ p140, up_ p141, up_ p142, up_ p143, up_ p144, up_ p145, up_ p146, up_ p147, up_ p148, up_ p149⟩
                          case op1 => as_aux_lemma =>
                            intro bb a_ w' h_
                            obtain ⟨x131, x132, x133, x134, x135, h_⟩ := h_
                            obtain ⟨x136, x137, x138, x139, x140, h_⟩ := h_
                            obtain ⟨x141, x142, x143, x144, x145, h_⟩ := h_
                            obtain ⟨x146, x147, x148, x149, h_⟩ := h_
                            obtain ⟨e_, h_⟩ := h_
                            subst e_
                            obtain ⟨B, p131, p132, p133, p134, h_⟩ := h_
                            obtain ⟨p135, p136, p137, p138, p139, h_⟩ := h_
                            obtain ⟨p140, p141, p142, p143, p144, h_⟩ := h_
                            obtain ⟨p145, p146, p147, p148, h_⟩ := h_
                            have p149 := h_
                            clear h_
                            intro hb hd K hK
                            simp only [Act.put, List.setIfInBounds_toArray, List.set_cons_zero, List.set_cons_succ]
                            obtain rfl := (p131 (hd 0 (by decide))).symm
                            rw [if_pos (by rfl)]
                            go_simp
                            exact hK _ _ ⟨.bool false, .bool true, x133, x134, x135, x136, x137, x138, x139, x140, x141, x142, x143, x144, x145, x146, x147, x148, x149, by simp only [Act.put, List.setIfInBounds_toArray, List.set_cons_zero, List.set_cons_succ], B, fun _ => rfl, fun _ => rfl, up_ p133, up_ p134, up_ p135, up_ p136, up_ p137, up_ p138, up_ p139, up_ p140, up_ p141, up_ p142, up_ p143, up_ p144, up_ p145, up_ p146, up_ p147, up_ p148, up_ p149⟩
                          case op2 => as_aux_lemma =>
                            intro bb a_ w' h_
                            obtain ⟨x131, x132, x133, x134, x135, h_⟩ := h_
                            obtain ⟨x136, x137, x138, x139, x140, h_⟩ := h_
                            obtain ⟨x141, x142, x143, x144, x145, h_⟩ := h_
                            obtain ⟨x146, x147, x148, x149, h_⟩ := h_
                            obtain ⟨e_, h_⟩ := h_
                            subst e_
                            obtain ⟨B, p131, p132, p133, p134, h_⟩ := h_
                            obtain ⟨p135, p136, p137, p138, p139, h_⟩ := h_
                            obtain ⟨p140, p141, p142, p143, p144, h_⟩ := h_
                            obtain ⟨p145, p146, p147, p148, h_⟩ := h_
                            have p149 := h_
                            clear h_
                            intro hb hd K hK
                            simp only [Act.put, List.setIfInBounds_toArray, List.set_cons_zero, List.set_cons_succ]
                            obtain rfl := (p132 (hd 1 (by decide))).symm
                            rw [if_pos (by rfl)]
                            go_simp
                            exact hK _ _ ⟨x131, .bool true, .bool true, x134, x135, x136, x137, x138, x139, x140, x141, x142, x143, x144, x145, x146, x147, x148, x149, by simp only [Act.put, List.setIfInBounds_toArray, List.set_cons_zero, List.set_cons_succ], B, up_ p131, fun _ => rfl, fun _ => rfl, up_ p134, up_ p135, up_ p136, up_ p137, up_ p138, up_ p139, up_ p140, up_ p141, up_ p142, up_ p143, up_ p144, up_ p145, up_ p146, up_ p147, up_ p148, up_ p149⟩
                          case op3 => as_aux_lemma =>
                            intro bb a_ w' h_
                            obtain ⟨x131, x132, x133, x134, x135, h_⟩ := h_
                            obtain ⟨x136, x137, x138, x139, x140, h_⟩ := h_
                            obtain ⟨x141, x142, x143, x144, x145, h_⟩ := h_
                            obtain ⟨x146, x147, x148, x149, h_⟩ := h_
                            obtain ⟨e_, h_⟩ := h_
                            subst e_
                            obtain ⟨B, p131, p132, p133, p134, h_⟩ := h_
                            obtain ⟨p135, p136, p137, p138, p139, h_⟩ := h_
                            obtain ⟨p140, p141, p142, p143, p144, h_⟩ := h_
                            obtain ⟨p145, p146, p147, p148, h_⟩ := h_
                            have p149 := h_
                            clear h_
                            intro hb hd K hK
                            simp only [Act.put, List.setIfInBounds_toArray, List.set_cons_zero, List.set_cons_succ]
                            obtain rfl := (p133 (hd 2 (by decide))).symm
                            rw [if_pos (by rfl)]
                            have hn := HW.out.next B
                            obtain ⟨c0, c1', c2⟩ := cells3 hn.blk
                            go_simp
                            exact hK _ _ ⟨x131, x132, .bool true, .agg #[.int .i64 a, .int .i64 bh, .string s], x135, x136, x137, x138, x139, x140, x141, x142, x143, x144, x145, x146, x147, x148, x149, by simp only [Act.put, List.setIfInBounds_toArray, List.set_cons_zero, List.set_cons_succ], B, up_ p131, up_ p132, fun _ => rfl, fun _ => rfl, up_ p135, up_ p136, up_ p137, up_ p138, up_ p139, up_ p140, up_ p141, up_ p142, up_ p143, up_ p144, up_ p145, up_ p146, up_ p147, up_ p148, up_ p149⟩
                          case op4 => as_aux_lemma =>
                            intro bb a_ w' h_
                            obtain ⟨x131, x132, x133, x134, x135, h_⟩ := h_
                            obtain ⟨x136, x137, x138, x139, x140, h_⟩ := h_
                            obtain ⟨x141, x142, x143, x144, x145, h_⟩ := h_
                            obtain ⟨x146, x147, x148, x149, h_⟩ := h_
                            obtain ⟨e_, h_⟩ := h_
                            subst e_
                            obtain ⟨B, p131, p132, p133, p134, h_⟩ := h_
                            obtain ⟨p135, p136, p137, p138, p139, h_⟩ := h_
                            obtain ⟨p140, p141, p142, p143, p144, h_⟩ := h_
                            obtain ⟨p145, p146, p147, p148, h_⟩ := h_
                            have p149 := h_
                            clear h_
                            intro hb hd K hK
                            simp only [Act.put, List.setIfInBounds_toArray, List.set_cons_zero, List.set_cons_succ]
                            obtain rfl := (p133 (hd 2 (by decide))).symm
                            rw [if_pos (by rfl)]
                            go_simp
                            exact hK _ _ ⟨x131, x132, .bool true, x134, .slice (some adn) nx.length cn, x136, x137, x138, x139, x140, x141, x142, x143, x144, x145, x146, x147, x148, x149, by simp only [Act.put, List.setIfInBounds_toArray, List.set_cons_zero, List.set_cons_succ], B, up_ p131, up_ p132, fun _ => rfl, up_ p134, fun _ => rfl, up_ p136, up_ p137, up_ p138, up_ p139, up_ p140, up_ p141, up_ p142, up_ p143, up_ p144, up_ p145, up_ p146, up_ p147, up_ p148, up_ p149⟩
                          case op5 => as_aux_lemma =>
                            intro bb a_ w' h_
                            obtain ⟨x131, x132, x133, x134, x135, h_⟩ := h_
                            obtain ⟨x136, x137, x138, x139, x140, h_⟩ := h_
                            obtain ⟨x141, x142, x143, x144, x145, h_⟩ := h_
                            obtain ⟨x146, x147, x148, x149, h_⟩ := h_
                            obtain ⟨e_, h_⟩ := h_
                            subst e_
                            obtain ⟨B, p131, p132, p133, p134, h_⟩ := h_
                            obtain ⟨p135, p136, p137, p138, p139, h_⟩ := h_
                            obtain ⟨p140, p141, p142, p143, p144, h_⟩ := h_
                            obtain ⟨p145, p146, p147, p148, h_⟩ := h_
                            have p149 := h_
                            clear h_
                            intro hb hd K hK
                            simp only [Act.put, List.setIfInBounds_toArray, List.set_cons_zero, List.set_cons_succ]
                            obtain rfl := (p133 (hd 2 (by decide))).symm
                            rw [if_pos (by rfl)]
                            go_simp
                            exact hK _ _ ⟨x131, x132, .bool true, x134, x135, .int .i64 (j : Int), x137, x138, x139, x140, x141, x142, x143, x144, x145, x146, x147, x148, x149, by simp only [Act.put, List.setIfInBounds_toArray, List.set_cons_zero, List.set_cons_succ], B, up_ p131, up_ p132, fun _ => rfl, up_ p134, up_ p135, fun _ => rfl, up_ p137, up_ p138, up_ p139, up_ p140, up_ p141, up_ p142, up_ p143, up_ p144, up_ p145, up_ p146, up_ p147, up_ p148, up_ p149⟩
                          case op6 => as_aux_lemma =>
                            intro bb a_ w' h_
                            obtain ⟨x131, x132, x133, x134, x135, h_⟩ := h_
                            obtain ⟨x136, x137, x138, x139, x140, h_⟩ := h_
                            obtain ⟨x141, x142, x143, x144, x145, h_⟩ := h_
                            obtain ⟨x146, x147, x148, x149, h_⟩ := h_
                            obtain ⟨e_, h_⟩ := h_
                            subst e_
                            obtain ⟨B, p131, p132, p133, p134, h_⟩ := h_
                            obtain ⟨p135, p136, p137, p138, p139, h_⟩ := h_
                            obtain ⟨p140, p141, p142, p143, p144, h_⟩ := h_
                            obtain ⟨p145, p146, p147, p148, h_⟩ := h_
                            have p149 := h_
                            clear h_
                            intro hb hd K hK
                            simp only [Act.put, List.setIfInBounds_toArray, List.set_cons_zero, List.set_cons_succ]
                            obtain rfl := (p133 (hd 2 (by decide))).symm
                            obtain rfl := (p135 (hd 4 (by decide))).symm
                            obtain rfl := (p136 (hd 5 (by decide))).symm
                            rw [if_pos (by rfl)]
                            go_simp
                            exact hK _ _ ⟨x131, x132, .bool true, x134, .slice (some adn) nx.length cn, .int .i64 (j : Int), .pointer (some (adn.add j)), x138, x139, x140, x141, x142, x143, x144, x145, x146, x147, x148, x149, by simp only [Act.put, List.setIfInBounds_toArray, List.set_cons_zero, List.set_cons_succ], B, up_ p131, up_ p132, fun _ => rfl, up_ p134, fun _ => rfl, fun _ => rfl, fun _ => rfl, up_ p138, up_ p139, up_ p140, up_ p141, up_ p142, up_ p143, up_ p144, up_ p145, up_ p146, up_ p147, up_ p148, up_ p149⟩
                          case op7 => as_aux_lemma =>
                            intro bb a_ w' h_
                            obtain ⟨x131, x132, x133, x134, x135, h_⟩ := h_
                            obtain ⟨x136, x137, x138, x139, x140, h_⟩ := h_
                            obtain ⟨x141, x142, x143, x144, x145, h_⟩ := h_
                            obtain ⟨x146, x147, x148, x149, h_⟩ := h_
                            obtain ⟨e_, h_⟩ := h_
                            subst e_
                            obtain ⟨B, p131, p132, p133, p134, h_⟩ := h_
                            obtain ⟨p135, p136, p137, p138, p139, h_⟩ := h_
                            obtain ⟨p140, p141, p142, p143, p144, h_⟩ := h_
                            obtain ⟨p145, p146, p147, p148, h_⟩ := h_
                            have p149 := h_
                            clear h_
                            intro hb hd K hK
                            simp only [Act.put, List.setIfInBounds_toArray, List.set_cons_zero, List.set_cons_succ]
                            obtain rfl := (p133 (hd 2 (by decide))).symm
                            obtain rfl := (p137 (hd 6 (by decide))).symm
                            rw [if_pos (by rfl)]
                            have hx0 := nx_at (Kd.Q_below HN.out B) hjn HX.out
                            go_simp
                            exact hK _ _ ⟨x131, x132, .bool true, x134, x135, x136, .pointer (some (adn.add j)), .int .i64 x, x139, x140, x141, x142, x143, x144, x145, x146, x147, x148, x149, by simp only [Act.put, List.setIfInBounds_toArray, List.set_cons_zero, List.set_cons_succ], B, up_ p131, up_ p132, fun _ => rfl, up_ p134, up_ p135, up_ p136, fun _ => rfl, fun _ => rfl, up_ p139, up_ p140, up_ p141, up_ p142, up_ p143, up_ p144, up_ p145, up_ p146, up_ p147, up_ p148, up_ p149⟩
                          case op8 => as_aux_lemma =>
                            intro bb a_ w' h_
                            obtain ⟨x131, x132, x133, x134, x135, h_⟩ := h_
                            obtain ⟨x136, x137, x138, x139, x140, h_⟩ := h_
                            obtain ⟨x141, x142, x143, x144, x145, h_⟩ := h_
                            obtain ⟨x146, x147, x148, x149, h_⟩ := h_
                            obtain ⟨e_, h_⟩ := h_
                            subst e_
                            obtain ⟨B, p131, p132, p133, p134, h_⟩ := h_
                            obtain ⟨p135, p136, p137, p138, p139, h_⟩ := h_
                            obtain ⟨p140, p141, p142, p143, p144, h_⟩ := h_
                            obtain ⟨p145, p146, p147, p148, h_⟩ := h_
                            have p149 := h_
                            clear h_
                            intro hb hd K hK
                            simp only [Act.put, List.setIfInBounds_toArray, List.set_cons_zero, List.set_cons_succ]
                            obtain rfl := (p133 (hd 2 (by decide))).symm
                            obtain rfl := (p134 (hd 3 (by decide))).symm
                            obtain rfl := (p138 (hd 7 (by decide))).symm
                            rw [if_pos (by rfl)]
                            go_simp
                            refine (WK.out _).mono ?_
                            rintro e w2 ⟨rfl, hb2⟩
                            exact hK _ _ ⟨x131, x132, .bool true, .agg #[.int .i64 a, .int .i64 bh, .string s], x135, x136, x137, .int .i64 x, .bool false, x140, x141, x142, x143, x144, x145, x146, x147, x148, x149, by simp only [Act.put, List.setIfInBounds_toArray, List.set_cons_zero, List.set_cons_succ], below_then B B.size hb2, up_ p131, up_ p132, fun _ => rfl, fun _ => rfl, up_ p135, up_ p136, up_ p137, fun _ => rfl, fun _ => rfl, up_ p140, up_ p141, up_ p142, up_ p143, up_ p144, up_ p145, up_ p146, up_ p147, up_ p148, up_ p149⟩
                          case op9 => as_aux_lemma =>
                            intro bb a_ w' h_
                            obtain ⟨x131, x132, x133, x134, x135, h_⟩ := h_
                            obtain ⟨x136, x137, x138, x139, x140, h_⟩ := h_
                            obtain ⟨x141, x142, x143, x144, x145, h_⟩ := h_
                            obtain ⟨x146, x147, x148, x149, h_⟩ := h_
                            obtain ⟨e_, h_⟩ := h_
                            subst e_
                            obtain ⟨B, p131, p132, p133, p134, h_⟩ := h_
                            obtain ⟨p135, p136, p137, p138, p139, h_⟩ := h_
                            obtain ⟨p140, p141, p142, p143, p144, h_⟩ := h_
                            obtain ⟨p145, p146, p147, p148, h_⟩ := h_
                            have p149 := h_
                            clear h_
                            intro hb hd K hK
                            simp only [Act.put, List.setIfInBounds_toArray, List.set_cons_zero, List.set_cons_succ]
                            obtain rfl := (p133 (hd 2 (by decide))).symm
                            obtain rfl := (p139 (hd 8 (by decide))).symm
                            rw [if_pos (by rfl)]
                            go_simp
                            exact hK _ _ ⟨x131, x132, .bool true, x134, x135, x136, x137, x138, .bool false, .bool false, x141, x142, x143, x144, x145, x146, x147, x148, x149, by simp only [Act.put, List.setIfInBounds_toArray, List.set_cons_zero, List.set_cons_succ], B, up_ p131, up_ p132, fun _ => rfl, up_ p134, up_ p135, up_ p136, up_ p137, up_ p138, fun _ => rfl, fun _ => rfl, up_ p141, up_ p142, up_ p143, up_ p144, up_ p145, up_ p146, up_ p147, up_ p148, up_ p149⟩
                          case op10 => as_aux_lemma =>
                            intro bb a_ w' h_
                            obtain ⟨x131, x132, x133, x134, x135, h_⟩ := h_
                            obtain ⟨x136, x137, x138, x139, x140, h_⟩ := h_
                            obtain ⟨x141, x142, x143, x144, x145, h_⟩ := h_
                            obtain ⟨x146, x147, x148, x149, h_⟩ := h_
                            obtain ⟨e_, h_⟩ := h_
                            subst e_
                            obtain ⟨B, p131, p132, p133, p134, h_⟩ := h_
                            obtain ⟨p135, p136, p137, p138, p139, h_⟩ := h_
                            obtain ⟨p140, p141, p142, p143, p144, h_⟩ := h_
                            obtain ⟨p145, p146, p147, p148, h_⟩ := h_
                            have p149 := h_
                            clear h_
                            intro hb hd K hK
                            simp only [Act.put, List.setIfInBounds_toArray, List.set_cons_zero, List.set_cons_succ]
                            obtain rfl := (p140 (hd 9 (by decide))).symm
                            rw [if_pos (by rfl)]
                            go_simp
                            exact hK _ _ ⟨x131, x132, x133, x134, x135, x136, x137, x138, x139, .bool false, .bool false, x142, x143, x144, x145, x146, x147, x148, x149, by simp only [Act.put, List.setIfInBounds_toArray, List.set_cons_zero, List.set_cons_succ], B, up_ p131, up_ p132, up_ p133, up_ p134, up_ p135, up_ p136, up_ p137, up_ p138, up_ p139, fun _ => rfl, fun _ => rfl, up_ p142, up_ p143, up_ p144, up_ p145, up_ p146, up_ p147, up_ p148, up_ p149⟩
                          case op11 => as_aux_lemma =>
                            intro bb a_ w' h_
                            obtain ⟨x131, x132, x133, x134, x135, h_⟩ := h_
                            obtain ⟨x136, x137, x138, x139, x140, h_⟩ := h_
                            obtain ⟨x141, x142, x143, x144, x145, h_⟩ := h_
                            obtain ⟨x146, x147, x148, x149, h_⟩ := h_
                            obtain ⟨e_, h_⟩ := h_
                            subst e_
                            obtain ⟨B, p131, p132, p133, p134, h_⟩ := h_
                            obtain ⟨p135, p136, p137, p138, p139, h_⟩ := h_
                            obtain ⟨p140, p141, p142, p143, p144, h_⟩ := h_
                            obtain ⟨p145, p146, p147, p148, h_⟩ := h_
                            have p149 := h_
                            clear h_
                            intro hb hd K hK
                            simp only [Act.put, List.setIfInBounds_toArray, List.set_cons_zero, List.set_cons_succ]
                            obtain rfl := (p141 (hd 10 (by decide))).symm
                            rw [if_neg (by exact Bool.false_ne_true)]
                            exact hK _ _ ⟨x131, x132, x133, x134, x135, x136, x137, x138, x139, x140, .bool false, undef, x143, x144, x145, x146, x147, x148, x149, by simp only [Act.put, List.setIfInBounds_toArray, List.set_cons_zero, List.set_cons_succ], B, up_ p131, up_ p132, up_ p133, up_ p134, up_ p135, up_ p136, up_ p137, up_ p138, up_ p139, up_ p140, fun _ => rfl, fun _ => rfl, up_ p143, up_ p144, up_ p145, up_ p146, up_ p147, up_ p148, up_ p149⟩
                          case op12 => as_aux_lemma =>
                            intro bb a_ w' h_
                            obtain ⟨x131, x132, x133, x134, x135, h_⟩ := h_
                            obtain ⟨x136, x137, x138, x139, x140, h_⟩ := h_
                            obtain ⟨x141, x142, x143, x144, x145, h_⟩ := h_
                            obtain ⟨x146, x147, x148, x149, h_⟩ := h_
                            obtain ⟨e_, h_⟩ := h_
                            subst e_
                            obtain ⟨B, p131, p132, p133, p134, h_⟩ := h_
                            obtain ⟨p135, p136, p137, p138, p139, h_⟩ := h_
                            obtain ⟨p140, p141, p142, p143, p144, h_⟩ := h_
                            obtain ⟨p145, p146, p147, p148, h_⟩ := h_
                            have p149 := h_
                            clear h_
                            intro hb hd K hK
                            simp only [Act.put, List.setIfInBounds_toArray, List.set_cons_zero, List.set_cons_succ]
                            obtain rfl := (p141 (hd 10 (by decide))).symm
                            rw [if_neg (by exact Bool.false_ne_true)]
                            exact hK _ _ ⟨x131, x132, x133, x134, x135, x136, x137, x138, x139, x140, .bool false, x142, undef, x144, x145, x146, x147, x148, x149, by simp only [Act.put, List.setIfInBounds_toArray, List.set_cons_zero, List.set_cons_succ], B, up_ p131, up_ p132, up_ p133, up_ p134, up_ p135, up_ p136, up_ p137, up_ p138, up_ p139, up_ p140, fun _ => rfl, up_ p142, fun _ => rfl, up_ p144, up_ p145, up_ p146, up_ p147, up_ p148, up_ p149⟩
                          case op13 => as_aux_lemma =>
                            intro bb a_ w' h_
                            obtain ⟨x131, x132, x133, x134, x135, h_⟩ := h_
                            obtain ⟨x136, x137, x138, x139, x140, h_⟩ := h_
                            obtain ⟨x141, x142, x143, x144, x145, h_⟩ := h_
                            obtain ⟨x146, x147, x148, x149, h_⟩ := h_
                            obtain ⟨e_, h_⟩ := h_
                            subst e_
                            obtain ⟨B, p131, p132, p133, p134, h_⟩ := h_
                            obtain ⟨p135, p136, p137, p138, p139, h_⟩ := h_
                            obtain ⟨p140, p141, p142, p143, p144, h_⟩ := h_
                            obtain ⟨p145, p146, p147, p148, h_⟩ := h_
                            have p149 := h_
                            clear h_
                            intro hb hd K hK
                            simp only [Act.put, List.setIfInBounds_toArray, List.set_cons_zero, List.set_cons_succ]
                            obtain rfl := (p141 (hd 10 (by decide))).symm
                            rw [if_neg (by exact Bool.false_ne_true)]
                            exact hK _ _ ⟨x131, x132, x133, x134, x135, x136, x137, x138, x139, x140, .bool false, x142, x143, undef, x145, x146, x147, x148, x149, by simp only [Act.put, List.setIfInBounds_toArray, List.set_cons_zero, List.set_cons_succ], B, up_ p131, up_ p132, up_ p133, up_ p134, up_ p135, up_ p136, up_ p137, up_ p138, up_ p139, up_ p140, fun _ => rfl, up_ p142, up_ p143, fun _ => rfl, up_ p145, up_ p146, up_ p147, up_ p148, up_ p149⟩
                          case op14 => as_aux_lemma =>
                            intro bb a_ w' h_
                            obtain ⟨x131, x132, x133, x134, x135, h_⟩ := h_
                            obtain ⟨x136, x137, x138, x139, x140, h_⟩ := h_
                            obtain ⟨x141, x142, x143, x144, x145, h_⟩ := h_
                            obtain ⟨x146, x147, x148, x149, h_⟩ := h_
                            obtain ⟨e_, h_⟩ := h_
                            subst e_
                            obtain ⟨B, p131, p132, p133, p134, h_⟩ := h_
                            obtain ⟨p135, p136, p137, p138, p139, h_⟩ := h_
                            obtain ⟨p140, p141, p142, p143, p144, h_⟩ := h_
                            obtain ⟨p145, p146, p147, p148, h_⟩ := h_
                            have p149 := h_
                            clear h_
                            intro hb hd K hK
                            simp only [Act.put, List.setIfInBounds_toArray, List.set_cons_zero, List.set_cons_succ]
                            obtain rfl := (p141 (hd 10 (by decide))).symm
                            rw [if_neg (by exact Bool.false_ne_true)]
                            exact hK _ _ ⟨x131, x132, x133, x134, x135, x136, x137, x138, x139, x140, .bool false, x142, x143, x144, undef, x146, x147, x148, x149, by simp only [Act.put, List.setIfInBounds_toArray, List.set_cons_zero, List.set_cons_succ], B, up_ p131, up_ p132, up_ p133, up_ p134, up_ p135, up_ p136, up_ p137, up_ p138, up_ p139, up_ p140, fun _ => rfl, up_ p142, up_ p143, up_ p144, fun _ => rfl, up_ p146, up_ p147, up_ p148, up_ p149⟩
                          case op15 => as_aux_lemma =>
                            intro bb a_ w' h_
                            obtain ⟨x131, x132, x133, x134, x135, h_⟩ := h_
                            obtain ⟨x136, x137, x138, x139, x140, h_⟩ := h_
                            obtain ⟨x141, x142, x143, x144, x145, h_⟩ := h_
                            obtain ⟨x146, x147, x148, x149, h_⟩ := h_
                            obtain ⟨e_, h_⟩ := h_
                            subst e_
                            obtain ⟨B, p131, p132, p133, p134, h_⟩ := h_
                            obtain ⟨p135, p136, p137, p138, p139, h_⟩ := h_
                            obtain ⟨p140, p141, p142, p143, p144, h_⟩ := h_
                            obtain ⟨p145, p146, p147, p148, h_⟩ := h_
                            have p149 := h_
                            clear h_
                            intro hb hd K hK
                            simp only [Act.put, List.setIfInBounds_toArray, List.set_cons_zero, List.set_cons_succ]
                            obtain rfl := (p141 (hd 10 (by decide))).symm
                            rw [if_neg (by exact Bool.false_ne_true)]
                            exact hK _ _ ⟨x131, x132, x133, x134, x135, x136, x137, x138, x139, x140, .bool false, x142, x143, x144, x145, undef, x147, x148, x149, by simp only [Act.put, List.setIfInBounds_toArray, List.set_cons_zero, List.set_cons_succ], B, up_ p131, up_ p132, up_ p133, up_ p134, up_ p135, up_ p136, up_ p137, up_ p138, up_ p139, up_ p140, fun _ => rfl, up_ p142, up_ p143, up_ p144, up_ p145, fun _ => rfl, up_ p147, up_ p148, up_ p149⟩
                          case op16 => as_aux_lemma =>
                            intro bb a_ w' h_
                            obtain ⟨x131, x132, x133, x134, x135, h_⟩ := h_
                            obtain ⟨x136, x137, x138, x139, x140, h_⟩ := h_
                            obtain ⟨x141, x142, x143, x144, x145, h_⟩ := h_
                            obtain ⟨x146, x147, x148, x149, h_⟩ := h_
                            obtain ⟨e_, h_⟩ := h_
                            subst e_
                            obtain ⟨B, p131, p132, p133, p134, h_⟩ := h_
                            obtain ⟨p135, p136, p137, p138, p139, h_⟩ := h_
                            obtain ⟨p140, p141, p142, p143, p144, h_⟩ := h_
                            obtain ⟨p145, p146, p147, p148, h_⟩ := h_
                            have p149 := h_
                            clear h_
                            intro hb hd K hK
                            simp only [Act.put, List.setIfInBounds_toArray, List.set_cons_zero, List.set_cons_succ]
                            obtain rfl := (p141 (hd 10 (by decide))).symm
                            rw [if_neg (by exact Bool.false_ne_true)]
                            exact hK _ _ ⟨x131, x132, x133, x134, x135, x136, x137, x138, x139, x140, .bool false, x142, x143, x144, x145, x146, undef, x148, x149, by simp only [Act.put, List.setIfInBounds_toArray, List.set_cons_zero, List.set_cons_succ], B, up_ p131, up_ p132, up_ p133, up_ p134, up_ p135, up_ p136, up_ p137, up_ p138, up_ p139, up_ p140, fun _ => rfl, up_ p142, up_ p143, up_ p144, up_ p145, up_ p146, fun _ => rfl, up_ p148, up_ p149⟩
                          case op17 => as_aux_lemma =>
                            intro bb a_ w' h_
                            obtain ⟨x131, x132, x133, x134, x135, h_⟩ := h_
                            obtain ⟨x136, x137, x138, x139, x140, h_⟩ := h_
                            obtain ⟨x141, x142, x143, x144, x145, h_⟩ := h_
                            obtain ⟨x146, x147, x148, x149, h_⟩ := h_
                            obtain ⟨e_, h_⟩ := h_
                            subst e_
                            obtain ⟨B, p131, p132, p133, p134, h_⟩ := h_
                            obtain ⟨p135, p136, p137, p138, p139, h_⟩ := h_
                            obtain ⟨p140, p141, p142, p143, p144, h_⟩ := h_
                            obtain ⟨p145, p146, p147, p148, h_⟩ := h_
                            have p149 := h_
                            clear h_
                            intro hb hd K hK
                            simp only [Act.put, List.setIfInBounds_toArray, List.set_cons_zero, List.set_cons_succ]
                            obtain rfl := (p141 (hd 10 (by decide))).symm
                            rw [if_neg (by exact Bool.false_ne_true)]
                            exact hK _ _ ⟨x131, x132, x133, x134, x135, x136, x137, x138, x139, x140, .bool false, x142, x143, x144, x145, x146, x147, undef, x149, by simp only [Act.put, List.setIfInBounds_toArray, List.set_cons_zero, List.set_cons_succ], B, up_ p131, up_ p132, up_ p133, up_ p134, up_ p135, up_ p136, up_ p137, up_ p138, up_ p139, up_ p140, fun _ => rfl, up_ p142, up_ p143, up_ p144, up_ p145, up_ p146, up_ p147, fun _ => rfl, up_ p149⟩
                          case op18 => as_aux_lemma =>
                            intro bb a_ w' h_
                            obtain ⟨x131, x132, x133, x134, x135, h_⟩ := h_
                            obtain ⟨x136, x137, x138, x139, x140, h_⟩ := h_
                            obtain ⟨x141, x142, x143, x144, x145, h_⟩ := h_
                            obtain ⟨x146, x147, x148, x149, h_⟩ := h_
                            obtain ⟨e_, h_⟩ := h_
                            subst e_
                            obtain ⟨B, p131, p132, p133, p134, h_⟩ := h_
                            obtain ⟨p135, p136, p137, p138, p139, h_⟩ := h_
                            obtain ⟨p140, p141, p142, p143, p144, h_⟩ := h_
                            obtain ⟨p145, p146, p147, p148, h_⟩ := h_
                            have p149 := h_
                            clear h_
                            intro hb hd K hK
                            simp only [Act.put, List.setIfInBounds_toArray, List.set_cons_zero, List.set_cons_succ]
                            obtain rfl := (p141 (hd 10 (by decide))).symm
                            rw [if_pos (by rfl)]
                            go_simp
                            exact hK _ _ ⟨x131, x132, x133, x134, x135, x136, x137, x138, x139, x140, .bool false, x142, x143, x144, x145, x146, x147, x148, .bool false, by simp only [Act.put, List.setIfInBounds_toArray, List.set_cons_zero, List.set_cons_succ], B, up_ p131, up_ p132, up_ p133, up_ p134, up_ p135, up_ p136, up_ p137, up_ p138, up_ p139, up_ p140, fun _ => rfl, up_ p142, up_ p143, up_ p144, up_ p145, up_ p146, up_ p147, up_ p148, fun _ => rfl⟩
                          case done => as_aux_lemma =>
                            intro bb a_ w' hb h_
                            obtain ⟨x131, x132, x133, x134, x135, h_⟩ := h_
                            obtain ⟨x136, x137, x138, x139, x140, h_⟩ := h_
                            obtain ⟨x141, x142, x143, x144, x145, h_⟩ := h_
                            obtain ⟨x146, x147, x148, x149, h_⟩ := h_
                            obtain ⟨e_, h_⟩ := h_
                            subst e_
                            obtain ⟨B, p131, p132, p133, p134, h_⟩ := h_
                            obtain ⟨p135, p136, p137, p138, p139, h_⟩ := h_
                            obtain ⟨p140, p141, p142, p143, p144, h_⟩ := h_
                            obtain ⟨p145, p146, p147, p148, h_⟩ := h_
                            have p149 := h_
                            clear h_
                            obtain rfl := (p131 (hb 0 (by decide))).symm
                            obtain rfl := (p132 (hb 1 (by decide))).symm
                            obtain rfl := (p133 (hb 2 (by decide))).symm
                            obtain rfl := (p134 (hb 3 (by decide))).symm
                            obtain rfl := (p135 (hb 4 (by decide))).symm
                            obtain rfl := (p136 (hb 5 (by decide))).symm
                            obtain rfl := (p137 (hb 6 (by decide))).symm
                            obtain rfl := (p138 (hb 7 (by decide))).symm
                            obtain rfl := (p139 (hb 8 (by decide))).symm
                            obtain rfl := (p140 (hb 9 (by decide))).symm
                            obtain rfl := (p141 (hb 10 (by decide))).symm
                            obtain rfl := (p142 (hb 11 (by decide))).symm
                            obtain rfl := (p143 (hb 12 (by decide))).symm
                            obtain rfl := (p144 (hb 13 (by decide))).symm
                            obtain rfl := (p145 (hb 14 (by decide))).symm
                            obtain rfl := (p146 (hb 15 (by decide))).symm
                            obtain rfl := (p147 (hb 16 (by decide))).symm
                            obtain rfl := (p148 (hb 17 (by decide))).symm
                            obtain rfl := (p149 (hb 18 (by decide))).symm
                            simp only [Act.put, List.setIfInBounds_toArray, List.set_cons_zero, List.set_cons_succ]
                            have HWB := Lib.hid (HW.out.next B)
                            have HNB := Lib.hid (Kd.Q_below HN.out B)
                            clear hb B HW HN WK hx1 hlo HZ
                            go_wp2_with fail
                            go_roundg k2
                            case measure => omega
                            case rel => exact ⟨j + 1, S, wl, by push_cast; rfl, by omega, by omega, HE2, HWB, HNB⟩
                        | true =>
                          cases bx with
                          | true =>
                            rw [if_neg (by simp)] at hX
                            have HE2 := Lib.hid hX
                            clear hX
                            go_upto_region 25 with fail
                            refine wp_region_inv (fun a0 w_0 b a' w' => ∃ x131 x132 x133 x134 x135 x136 x137 x138 x139 x140 x141 x142 x143 x144 x145 x146 x147 x148 x149 : Value, a' = (((((((((((((((((((a0.put (some 131) x131).put (some 132) x132).put (some 133) x133).put (some 134) x134).put (some 135) x135).put (some 136) x136).put (some 137) x137).put (some 138) x138).put (some 139) x139).put (some 140) x140).put (some 141) x141).put (some 142) x142).put (some 143) x143).put (some 144) x144).put (some 145) x145).put (some 146) x146).put (some 147) x147).put (some 148) x148).put (some 149) x149) ∧ Below wr.heap.size wr w' ∧ (b 0 = true → x131 = .bool false) ∧ (b 1 = true → x132 = .bool true) ∧ (b 2 = true → x133 = .bool true) ∧ (b 3 = true → x134 = .agg #[.int .i64 a, .int .i64 bh, .string s]) ∧ (b 4 = true → x135 = .slice (some adn) nx.length cn) ∧ (b 5 = true → x136 = .int .i64 (j : Int)) ∧ (b 6 = true → x137 = .pointer (some (adn.add j))) ∧ (b 7 = true → x138 = .int .i64 x) ∧ (b 8 = true → x139 = .bool true) ∧ (b 9 = true → x140 = .bool true) ∧ (b 10 = true → x141 = .bool true) ∧ (b 11 = true → x142 = .map (some gm)) ∧ (b 12 = true → x143 = .slice (some adn) nx.length cn) ∧ (b 13 = true → x144 = .int .i64 (j : Int)) ∧ (b 14 = true → x145 = .pointer (some (adn.add j))) ∧ (b 15 = true → x146 = .int .i64 x) ∧ (b 16 = true → x147 = .bool true) ∧ (b 17 = true → x148 = .bool false) ∧ (b 18 = true → x149 = .bool false)) (by kernel_rfl) (by kernel_rfl) ?start ⟨?op0, ?op1, ?op2, ?op3, ?op4, ?op5, ?op6, ?op7, ?op8, ?op9, ?op10, ?op11, ?op12, ?op13, ?op14, ?op15, ?op16, ?op17, ?op18, trivial⟩ ?done
                            case start => exact ⟨_, _, _, _, _, _, _, _, _, _, _, _, _, _, _, _, _, _, _, by simp only [Act.put, List.setIfInBounds_toArray, List.set_cons_zero, List.set_cons_succ]; rfl, below_drew1 (Below.refl _ _), fun h => absurd h (by decide), fun h => absurd h (by decide), fun h => absurd h (by decide), fun h => absurd h (by decide), fun h => absurd h (by decide), fun h => absurd h (by decide), fun h => absurd h (by decide), fun h => absurd h (by decide), fun h => absurd h (by decide), fun h => absurd h (by decide), fun h => absurd h (by decide), fun h => absurd h (by decide), fun h => absurd h (by decide), fun h => absurd h (by decide), fun h => absurd h (by decide), fun h => absurd h (by decide), fun h => absurd h (by decide), fun h => absurd h (by decide), fun h => absurd h (by decide)⟩
                            case op0 => as_aux_lemma =>
                              intro bb a_ w' h_
                              obtain ⟨x131, x132, x133, x134, x135, h_⟩ := h_
                              obtain ⟨x136, x137, x138, x139, x140, h_⟩ := h_
                              obtain ⟨x141, x142, x143, x144, x145, h_⟩ := h_
                              obtain ⟨x146, x147, x148, x149, h_⟩ := h_
                              obtain ⟨e_, h_⟩ := h_
                              subst e_
                              obtain ⟨B, p131, p132, p133, p134, h_⟩ := h_
                              obtain ⟨p135, p136, p137, p138, p139, h_⟩ := h_
                              obtain ⟨p140, p141, p142, p143, p144, h_⟩ := h_
                              obtain ⟨p145, p146, p147, p148, h_⟩ := h_
                              have p149 := h_
                              clear h_
                              intro hb hd K hK
                              simp only [Act.put, List.setIfInBounds_toArray, List.set_cons_zero, List.set_cons_succ]
                              rw [if_pos (by rfl)]
                              go_simp
                              exact hK _ _ ⟨.bool false, x132, x133, x134, x135, x136, x137, x138, x139, x140, x141, x142, x143, x144, x145, x146, x147, x148, x149, by simp only [Act.put, List.setIfInBounds_toArray, List.set_cons_zero, List.set_cons_succ], B, fun _ => rfl, up_ p132, up_ p133, up_ p134, up_ p135, up_ p136, up_ p137, up_ p138, up_ p139, up_ p140, up_ p141, up_ p142, up_ p143, up_ p144, up_ p145, up_ p146, up_ p147, up_ p148, up_ p149⟩
                            case op1 => as_aux_lemma =>
                              intro bb a_ w' h_
                              obtain ⟨x131, x132, x133, x134, x135, h_⟩ := h_
                              obtain ⟨x136, x137, x138, x139, x140, h_⟩ := h_
                              obtain ⟨x141, x142, x143, x144, x145, h_⟩ := h_
                              obtain ⟨x146, x147, x148, x149, h_⟩ := h_
                              obtain ⟨e_, h_⟩ := h_
                              subst e_
                              obtain ⟨B, p131, p132, p133, p134, h_⟩ := h_
                              obtain ⟨p135, p136, p137, p138, p139, h_⟩ := h_
                              obtain ⟨p140, p141, p142, p143, p144, h_⟩ := h_
                              obtain ⟨p145, p146, p147, p148, h_⟩ := h_
                              have p149 := h_
                              clear h_
                              intro hb hd K hK
                              simp only [Act.put, List.setIfInBounds_toArray, List.set_cons_zero, List.set_cons_succ]
                              obtain rfl := (p131 (hd 0 (by decide))).symm
                              rw [if_pos (by rfl)]
                              go_simp
                              exact hK _ _ ⟨.bool false, .bool true, x133, x134, x135, x136, x137, x138, x139, x140, x141, x142, x143, x144, x145, x146, x147, x148, x149, by simp only [Act.put, List.setIfInBounds_toArray, List.set_cons_zero, List.set_cons_succ], B, fun _ => rfl, fun _ => rfl, up_ p133, up_ p134, up_ p135, up_ p136, up_ p137, up_ p138, up_ p139, up_ p140, up_ p141, up_ p142, up_ p143, up_ p144, up_ p145, up_ p146, up_ p147, up_ p148, up_ p149⟩
                            case op2 => as_aux_lemma =>
                              intro bb a_ w' h_
                              obtain ⟨x131, x132, x133, x134, x135, h_⟩ := h_
                              obtain ⟨x136, x137, x138, x139, x140, h_⟩ := h_
                              obtain ⟨x141, x142, x143, x144, x145, h_⟩ := h_
                              obtain ⟨x146, x147, x148, x149, h_⟩ := h_
                              obtain ⟨e_, h_⟩ := h_
                              subst e_
                              obtain ⟨B, p131, p132, p133, p134, h_⟩ := h_
                              obtain ⟨p135, p136, p137, p138, p139, h_⟩ := h_
                              obtain ⟨p140, p141, p142, p143, p144, h_⟩ := h_
                              obtain ⟨p145, p146, p147, p148, h_⟩ := h_
                              have p149 := h_
                              clear h_
                              intro hb hd K hK
                              simp only [Act.put, List.setIfInBounds_toArray, List.set_cons_zero, List.set_cons_succ]
                              obtain rfl := (p132 (hd 1 (by decide))).symm
                              rw [if_pos (by rfl)]
                              go_simp
                              exact hK _ _ ⟨x131, .bool true, .bool true, x134, x135, x136, x137, x138, x139, x140, x141, x142, x143, x144, x145, x146, x147, x148, x149, by simp only [Act.put, List.setIfInBounds_toArray, List.set_cons_zero, List.set_cons_succ], B, up_ p131, fun _ => rfl, fun _ => rfl, up_ p134, up_ p135, up_ p136, up_ p137, up_ p138, up_ p139, up_ p140, up_ p141, up_ p142, up_ p143, up_ p144, up_ p145, up_ p146, up_ p147, up_ p148, up_ p149⟩
                            case op3 => as_aux_lemma =>
                              intro bb a_ w' h_
                              obtain ⟨x131, x132, x133, x134, x135, h_⟩ := h_
                              obtain ⟨x136, x137, x138, x139, x140, h_⟩ := h_
                              obtain ⟨x141, x142, x143, x144, x145, h_⟩ := h_
                              obtain ⟨x146, x147, x148, x149, h_⟩ := h_
                              obtain ⟨e_, h_⟩ := h_
                              subst e_
                              obtain ⟨B, p131, p132, p133, p134, h_⟩ := h_
                              obtain ⟨p135, p136, p137, p138, p139, h_⟩ := h_
                              obtain ⟨p140, p141, p142, p143, p144, h_⟩ := h_
                              obtain ⟨p145, p146, p147, p148, h_⟩ := h_
                              have p149 := h_
                              clear h_
                              intro hb hd K hK
                              simp only [Act.put, List.setIfInBounds_toArray, List.set_cons_zero, List.set_cons_succ]
                              obtain rfl := (p133 (hd 2 (by decide))).symm
                              rw [if_pos (by rfl)]
                              have hn := HW.out.next B
                              obtain ⟨c0, c1', c2⟩ := cells3 hn.blk
                              go_simp
                              exact hK _ _ ⟨x131, x132, .bool true, .agg #[.int .i64 a, .int .i64 bh, .string s], x135, x136, x137, x138, x139, x140, x141, x142, x143, x144, x145, x146, x147, x148, x149, by simp only [Act.put, List.setIfInBounds_toArray, List.set_cons_zero, List.set_cons_succ], B, up_ p131, up_ p132, fun _ => rfl, fun _ => rfl, up_ p135, up_ p136, up_ p137, up_ p138, up_ p139, up_ p140, up_ p141, up_ p142, up_ p143, up_ p144, up_ p145, up_ p146, up_ p147, up_ p148, up_ p149⟩
                            case op4 => as_aux_lemma =>
                              intro bb a_ w' h_
                              obtain ⟨x131, x132, x133, x134, x135, h_⟩ := h_
                              obtain ⟨x136, x137, x138, x139, x140, h_⟩ := h_
                              obtain ⟨x141, x142, x143, x144, x145, h_⟩ := h_
                              obtain ⟨x146, x147, x148, x149, h_⟩ := h_
                              obtain ⟨e_, h_⟩ := h_
                              subst e_
                              obtain ⟨B, p131, p132, p133, p134, h_⟩ := h_
                              obtain ⟨p135, p136, p137, p138, p139, h_⟩ := h_
                              obtain ⟨p140, p141, p142, p143, p144, h_⟩ := h_
                              obtain ⟨p145, p146, p147, p148, h_⟩ := h_
                              have p149 := h_
                              clear h_
                              intro hb hd K hK
                              simp only [Act.put, List.setIfInBounds_toArray, List.set_cons_zero, List.set_cons_succ]
                              obtain rfl := (p133 (hd 2 (by decide))).symm
                              rw [if_pos (by rfl)]
                              go_simp
                              exact hK _ _ ⟨x131, x132, .bool true, x134, .slice (some adn) nx.length cn, x136, x137, x138, x139, x140, x141, x142, x143, x144, x145, x146, x147, x148, x149, by simp only [Act.put, List.setIfInBounds_toArray, List.set_cons_zero, List.set_cons_succ], B, up_ p131, up_ p132, fun _ => rfl, up_ p134, fun _ => rfl, up_ p136, up_ p137, up_ p138, up_ p139, up_ p140, up_ p141, up_ p142, up_ p143, up_ p144, up_ p145, up_ p146, up_ p147, up_ p148, up_ p149⟩
                            case op5 => as_aux_lemma =>
                              intro bb a_ w' h_
                              obtain ⟨x131, x132, x133, x134, x135, h_⟩ := h_
                              obtain ⟨x136, x137, x138, x139, x140, h_⟩ := h_
                              obtain ⟨x141, x142, x143, x144, x145, h_⟩ := h_
                              obtain ⟨x146, x147, x148, x149, h_⟩ := h_
                              obtain ⟨e_, h_⟩ := h_
                              subst e_
                              obtain ⟨B, p131, p132, p133, p134, h_⟩ := h_
                              obtain ⟨p135, p136, p137, p138, p139, h_⟩ := h_
                              obtain ⟨p140, p141, p142, p143, p144, h_⟩ := h_
                              obtain ⟨p145, p146, p147, p148, h_⟩ := h_
                              have p149 := h_
                              clear h_
                              intro hb hd K hK
                              simp only [Act.put, List.setIfInBounds_toArray, List.set_cons_zero, List.set_cons_succ]
                              obtain rfl := (p133 (hd 2 (by decide))).symm
                              rw [if_pos (by rfl)]
                              go_simp
                              exact hK _ _ ⟨x131, x132, .bool true, x134, x135, .int .i64 (j : Int), x137, x138, x139, x140, x141, x142, x143, x144, x145, x146, x147, x148, x149, by simp only [Act.put, List.setIfInBounds_toArray, List.set_cons_zero, List.set_cons_succ], B, up_ p131, up_ p132, fun _ => rfl, up_ p134, up_ p135, fun _ => rfl, up_ p137, up_ p138, up_ p139, up_ p140, up_ p141, up_ p142, up_ p143, up_ p144, up_ p145, up_ p146, up_ p147, up_ p148, up_ p149⟩
                            case op6 => as_aux_lemma =>
                              intro bb a_ w' h_
                              obtain ⟨x131, x132, x133, x134, x135, h_⟩ := h_
                              obtain ⟨x136, x137, x138, x139, x140, h_⟩ := h_
                              obtain ⟨x141, x142, x143, x144, x145, h_⟩ := h_
                              obtain ⟨x146, x147, x148, x149, h_⟩ := h_
                              obtain ⟨e_, h_⟩ := h_
                              subst e_
                              obtain ⟨B, p131, p132, p133, p134, h_⟩ := h_
                              obtain ⟨p135, p136, p137, p138, p139, h_⟩ := h_
                              obtain ⟨p140, p141, p142, p143, p144, h_⟩ := h_
                              obtain ⟨p145, p146, p147, p148, h_⟩ := h_
                              have p149 := h_
                              clear h_
                              intro hb hd K hK
                              simp only [Act.put, List.setIfInBounds_toArray, List.set_cons_zero, List.set_cons_succ]
                              obtain rfl := (p133 (hd 2 (by decide))).symm
                              obtain rfl := (p135 (hd 4 (by decide))).symm
                              obtain rfl := (p136 (hd 5 (by decide))).symm
                              rw [if_pos (by rfl)]
                              go_simp
                              exact hK _ _ ⟨x131, x132, .bool true, x134, .slice (some adn) nx.length cn, .int .i64 (j : Int), .pointer (some (adn.add j)), x138, x139, x140, x141, x142, x143, x144, x145, x146, x147, x148, x149, by simp only [Act.put, List.setIfInBounds_toArray, List.set_cons_zero, List.set_cons_succ], B, up_ p131, up_ p132, fun _ => rfl, up_ p134, fun _ => rfl, fun _ => rfl, fun _ => rfl, up_ p138, up_ p139, up_ p140, up_ p141, up_ p142, up_ p143, up_ p144, up_ p145, up_ p146, up_ p147, up_ p148, up_ p149⟩
                            case op7 => as_aux_lemma =>
                              intro bb a_ w' h_
                              obtain ⟨x131, x132, x133, x134, x135, h_⟩ := h_
                              obtain ⟨x136, x137, x138, x139, x140, h_⟩ := h_
                              obtain ⟨x141, x142, x143, x144, x145, h_⟩ := h_
                              obtain ⟨x146, x147, x148, x149, h_⟩ := h_
                              obtain ⟨e_, h_⟩ := h_
                              subst e_
                              obtain ⟨B, p131, p132, p133, p134, h_⟩ := h_
                              obtain ⟨p135, p136, p137, p138, p139, h_⟩ := h_
                              obtain ⟨p140, p141, p142, p143, p144, h_⟩ := h_
                              obtain ⟨p145, p146, p147, p148, h_⟩ := h_
                              have p149 := h_
                              clear h_
                              intro hb hd K hK
                              simp only [Act.put, List.setIfInBounds_toArray, List.set_cons_zero, List.set_cons_succ]
                              obtain rfl := (p133 (hd 2 (by decide))).symm
                              obtain rfl := (p137 (hd 6 (by decide))).symm
                              rw [if_pos (by rfl)]
                              have hx0 := nx_at (Kd.Q_below HN.out B) hjn HX.out
                              go_simp
                              exact hK _ _ ⟨x131, x132, .bool true, x134, x135, x136, .pointer (some (adn.add j)), .int .i64 x, x139, x140, x141, x142, x143, x144, x145, x146, x147, x148, x149, by simp only [Act.put, List.setIfInBounds_toArray, List.set_cons_zero, List.set_cons_succ], B, up_ p131, up_ p132, fun _ => rfl, up_ p134, up_ p135, up_ p136, fun _ => rfl, fun _ => rfl, up_ p139, up_ p140, up_ p141, up_ p142, up_ p143, up_ p144, up_ p145, up_ p146, up_ p147, up_ p148, up_ p149⟩
                            case op8 => as_aux_lemma =>
                              intro bb a_ w' h_
                              obtain ⟨x131, x132, x133, x134, x135, h_⟩ := h_
                              obtain ⟨x136, x137, x138, x139, x140, h_⟩ := h_
                              obtain ⟨x141, x142, x143, x144, x145, h_⟩ := h_
                              obtain ⟨x146, x147, x148, x149, h_⟩ := h_
                              obtain ⟨e_, h_⟩ := h_
                              subst e_
                              obtain ⟨B, p131, p132, p133, p134, h_⟩ := h_
                              obtain ⟨p135, p136, p137, p138, p139, h_⟩ := h_
                              obtain ⟨p140, p141, p142, p143, p144, h_⟩ := h_
                              obtain ⟨p145, p146, p147, p148, h_⟩ := h_
                              have p149 := h_
                              clear h_
                              intro hb hd K hK
                              simp only [Act.put, List.setIfInBounds_toArray, List.set_cons_zero, List.set_cons_succ]
                              obtain rfl := (p133 (hd 2 (by decide))).symm
                              obtain rfl := (p134 (hd 3 (by decide))).symm
                              obtain rfl := (p138 (hd 7 (by decide))).symm
                              rw [if_pos (by rfl)]
                              go_simp
                              refine (WK.out _).mono ?_
                              rintro e w2 ⟨rfl, hb2⟩
                              exact hK _ _ ⟨x131, x132, .bool true, .agg #[.int .i64 a, .int .i64 bh, .string s], x135, x136, x137, .int .i64 x, .bool true, x140, x141, x142, x143, x144, x145, x146, x147, x148, x149, by simp only [Act.put, List.setIfInBounds_toArray, List.set_cons_zero, List.set_cons_succ], below_then B B.size hb2, up_ p131, up_ p132, fun _ => rfl, fun _ => rfl, up_ p135, up_ p136, up_ p137, fun _ => rfl, fun _ => rfl, up_ p140, up_ p141, up_ p142, up_ p143, up_ p144, up_ p145, up_ p146, up_ p147, up_ p148, up_ p149⟩
                            case op9 => as_aux_lemma =>
                              intro bb a_ w' h_
                              obtain ⟨x131, x132, x133, x134, x135, h_⟩ := h_
                              obtain ⟨x136, x137, x138, x139, x140, h_⟩ := h_
                              obtain ⟨x141, x142, x143, x144, x145, h_⟩ := h_
                              obtain ⟨x146, x147, x148, x149, h_⟩ := h_
                              obtain ⟨e_, h_⟩ := h_
                              subst e_
                              obtain ⟨B, p131, p132, p133, p134, h_⟩ := h_
                              obtain ⟨p135, p136, p137, p138, p139, h_⟩ := h_
                              obtain ⟨p140, p141, p142, p143, p144, h_⟩ := h_
                              obtain ⟨p145, p146, p147, p148, h_⟩ := h_
                              have p149 := h_
                              clear h_
                              intro hb hd K hK
                              simp only [Act.put, List.setIfInBounds_toArray, List.set_cons_zero, List.set_cons_succ]
                              obtain rfl := (p133 (hd 2 (by decide))).symm
                              obtain rfl := (p139 (hd 8 (by decide))).symm
                              rw [if_pos (by rfl)]
                              go_simp
                              exact hK _ _ ⟨x131, x132, .bool true, x134, x135, x136, x137, x138, .bool true, .bool true, x141, x142, x143, x144, x145, x146, x147, x148, x149, by simp only [Act.put, List.setIfInBounds_toArray, List.set_cons_zero, List.set_cons_succ], B, up_ p131, up_ p132, fun _ => rfl, up_ p134, up_ p135, up_ p136, up_ p137, up_ p138, fun _ => rfl, fun _ => rfl, up_ p141, up_ p142, up_ p143, up_ p144, up_ p145, up_ p146, up_ p147, up_ p148, up_ p149⟩
                            case op10 => as_aux_lemma =>
                              intro bb a_ w' h_
                              obtain ⟨x131, x132, x133, x134, x135, h_⟩ := h_
                              obtain ⟨x136, x137, x138, x139, x140, h_⟩ := h_
                              obtain ⟨x141, x142, x143, x144, x145, h_⟩ := h_
                              obtain ⟨x146, x147, x148, x149, h_⟩ := h_
                              obtain ⟨e_, h_⟩ := h_
                              subst e_
                              obtain ⟨B, p131, p132, p133, p134, h_⟩ := h_
                              obtain ⟨p135, p136, p137, p138, p139, h_⟩ := h_
                              obtain ⟨p140, p141, p142, p143, p144, h_⟩ := h_
                              obtain ⟨p145, p146, p147, p148, h_⟩ := h_
                              have p149 := h_
                              clear h_
                              intro hb hd K hK
                              simp only [Act.put, List.setIfInBounds_toArray, List.set_cons_zero, List.set_cons_succ]
                              obtain rfl := (p140 (hd 9 (by decide))).symm
                              rw [if_pos (by rfl)]
                              go_simp
                              exact hK _ _ ⟨x131, x132, x133, x134, x135, x136, x137, x138, x139, .bool true, .bool true, x142, x143, x144, x145, x146, x147, x148, x149, by simp only [Act.put, List.setIfInBounds_toArray, List.set_cons_zero, List.set_cons_succ], B, up_ p131, up_ p132, up_ p133, up_ p134, up_ p135, up_ p136, up_ p137, up_ p138, up_ p139, fun _ => rfl, fun _ => rfl, up_ p142, up_ p143, up_ p144, up_ p145, up_ p146, up_ p147, up_ p148, up_ p149⟩
                            case op11 => as_aux_lemma =>
                              intro bb a_ w' h_
                              obtain ⟨x131, x132, x133, x134, x135, h_⟩ := h_
                              obtain ⟨x136, x137, x138, x139, x140, h_⟩ := h_
                              obtain ⟨x141, x142, x143, x144, x145, h_⟩ := h_
                              obtain ⟨x146, x147, x148, x149, h_⟩ := h_
                              obtain ⟨e_, h_⟩ := h_
                              subst e_
                              obtain ⟨B, p131, p132, p133, p134, h_⟩ := h_
                              obtain ⟨p135, p136, p137, p138, p139, h_⟩ := h_
                              obtain ⟨p140, p141, p142, p143, p144, h_⟩ := h_
                              obtain ⟨p145, p146, p147, p148, h_⟩ := h_
                              have p149 := h_
                              clear h_
                              intro hb hd K hK
                              simp only [Act.put, List.setIfInBounds_toArray, List.set_cons_zero, List.set_cons_succ]
                              obtain rfl := (p141 (hd 10 (by decide))).symm
                              rw [if_pos (by rfl)]
                              have hn := HW.out.next B
                              have c19 := (blk_cell hn.var 0).trans rfl
                              go_simp
                              exact hK _ _ ⟨x131, x132, x133, x134, x135, x136, x137, x138, x139, x140, .bool true, .map (some gm), x143, x144, x145, x146, x147, x148, x149, by simp only [Act.put, List.setIfInBounds_toArray, List.set_cons_zero, List.set_cons_succ], B, up_ p131, up_ p132, up_ p133, up_ p134, up_ p135, up_ p136, up_ p137, up_ p138, up_ p139, up_ p140, fun _ => rfl, fun _ => rfl, up_ p143, up_ p144, up_ p145, up_ p146, up_ p147, up_ p148, up_ p149⟩
                            case op12 => as_aux_lemma =>
                              intro bb a_ w' h_
                              obtain ⟨x131, x132, x133, x134, x135, h_⟩ := h_
                              obtain ⟨x136, x137, x138, x139, x140, h_⟩ := h_
                              obtain ⟨x141, x142, x143, x144, x145, h_⟩ := h_
                              obtain ⟨x146, x147, x148, x149, h_⟩ := h_
                              obtain ⟨e_, h_⟩ := h_
                              subst e_
                              obtain ⟨B, p131, p132, p133, p134, h_⟩ := h_
                              obtain ⟨p135, p136, p137, p138, p139, h_⟩ := h_
                              obtain ⟨p140, p141, p142, p143, p144, h_⟩ := h_
                              obtain ⟨p145, p146, p147, p148, h_⟩ := h_
                              have p149 := h_
                              clear h_
                              intro hb hd K hK
                              simp only [Act.put, List.setIfInBounds_toArray, List.set_cons_zero, List.set_cons_succ]
                              obtain rfl := (p141 (hd 10 (by decide))).symm
                              rw [if_pos (by rfl)]
                              go_simp
                              exact hK _ _ ⟨x131, x132, x133, x134, x135, x136, x137, x138, x139, x140, .bool true, x142, .slice (some adn) nx.length cn, x144, x145, x146, x147, x148, x149, by simp only [Act.put, List.setIfInBounds_toArray, List.set_cons_zero, List.set_cons_succ], B, up_ p131, up_ p132, up_ p133, up_ p134, up_ p135, up_ p136, up_ p137, up_ p138, up_ p139, up_ p140, fun _ => rfl, up_ p142, fun _ => rfl, up_ p144, up_ p145, up_ p146, up_ p147, up_ p148, up_ p149⟩
                            case op13 => as_aux_lemma =>
                              intro bb a_ w' h_
                              obtain ⟨x131, x132, x133, x134, x135, h_⟩ := h_
                              obtain ⟨x136, x137, x138, x139, x140, h_⟩ := h_
                              obtain ⟨x141, x142, x143, x144, x145, h_⟩ := h_
                              obtain ⟨x146, x147, x148, x149, h_⟩ := h_
                              obtain ⟨e_, h_⟩ := h_
                              subst e_
                              obtain ⟨B, p131, p132, p133, p134, h_⟩ := h_
                              obtain ⟨p135, p136, p137, p138, p139, h_⟩ := h_
                              obtain ⟨p140, p141, p142, p143, p144, h_⟩ := h_
                              obtain ⟨p145, p146, p147, p148, h_⟩ := h_
                              have p149 := h_
                              clear h_
                              intro hb hd K hK
                              simp only [Act.put, List.setIfInBounds_toArray, List.set_cons_zero, List.set_cons_succ]
                              obtain rfl := (p141 (hd 10 (by decide))).symm
                              rw [if_pos (by rfl)]
                              go_simp
                              exact hK _ _ ⟨x131, x132, x133, x134, x135, x136, x137, x138, x139, x140, .bool true, x142, x143, .int .i64 (j : Int), x145, x146, x147, x148, x149, by simp only [Act.put, List.setIfInBounds_toArray, List.set_cons_zero, List.set_cons_succ], B, up_ p131, up_ p132, up_ p133, up_ p134, up_ p135, up_ p136, up_ p137, up_ p138, up_ p139, up_ p140, fun _ => rfl, up_ p142, up_ p143, fun _ => rfl, up_ p145, up_ p146, up_ p147, up_ p148, up_ p149⟩
                            case op14 => as_aux_lemma =>
                              intro bb a_ w' h_
                              obtain ⟨x131, x132, x133, x134, x135, h_⟩ := h_
                              obtain ⟨x136, x137, x138, x139, x140, h_⟩ := h_
                              obtain ⟨x141, x142, x143, x144, x145, h_⟩ := h_
                              obtain ⟨x146, x147, x148, x149, h_⟩ := h_
                              obtain ⟨e_, h_⟩ := h_
                              subst e_
                              obtain ⟨B, p131, p132, p133, p134, h_⟩ := h_
                              obtain ⟨p135, p136, p137, p138, p139, h_⟩ := h_
                              obtain ⟨p140, p141, p142, p143, p144, h_⟩ := h_
                              obtain ⟨p145, p146, p147, p148, h_⟩ := h_
                              have p149 := h_
                              clear h_
                              intro hb hd K hK
                              simp only [Act.put, List.setIfInBounds_toArray, List.set_cons_zero, List.set_cons_succ]
                              obtain rfl := (p141 (hd 10 (by decide))).symm
                              obtain rfl := (p143 (hd 12 (by decide))).symm
                              obtain rfl := (p144 (hd 13 (by decide))).symm
                              rw [if_pos (by rfl)]
                              go_simp
                              exact hK _ _ ⟨x131, x132, x133, x134, x135, x136, x137, x138, x139, x140, .bool true, x142, .slice (some adn) nx.length cn, .int .i64 (j : Int), .pointer (some (adn.add j)), x146, x147, x148, x149, by simp only [Act.put, List.setIfInBounds_toArray, List.set_cons_zero, List.set_cons_succ], B, up_ p131, up_ p132, up_ p133, up_ p134, up_ p135, up_ p136, up_ p137, up_ p138, up_ p139, up_ p140, fun _ => rfl, up_ p142, fun _ => rfl, fun _ => rfl, fun _ => rfl, up_ p146, up_ p147, up_ p148, up_ p149⟩
                            case op15 => as_aux_lemma =>
                              intro bb a_ w' h_
                              obtain ⟨x131, x132, x133, x134, x135, h_⟩ := h_
                              obtain ⟨x136, x137, x138, x139, x140, h_⟩ := h_
                              obtain ⟨x141, x142, x143, x144, x145, h_⟩ := h_
                              obtain ⟨x146, x147, x148, x149, h_⟩ := h_
                              obtain ⟨e_, h_⟩ := h_
                              subst e_
                              obtain ⟨B, p131, p132, p133, p134, h_⟩ := h_
                              obtain ⟨p135, p136, p137, p138, p139, h_⟩ := h_
                              obtain ⟨p140, p141, p142, p143, p144, h_⟩ := h_
                              obtain ⟨p145, p146, p147, p148, h_⟩ := h_
                              have p149 := h_
                              clear h_
                              intro hb hd K hK
                              simp only [Act.put, List.setIfInBounds_toArray, List.set_cons_zero, List.set_cons_succ]
                              obtain rfl := (p141 (hd 10 (by decide))).symm
                              obtain rfl := (p145 (hd 14 (by decide))).symm
                              rw [if_pos (by rfl)]
                              have hx0 := nx_at (Kd.Q_below HN.out B) hjn HX.out
                              go_simp
                              exact hK _ _ ⟨x131, x132, x133, x134, x135, x136, x137, x138, x139, x140, .bool true, x142, x143, x144, .pointer (some (adn.add j)), .int .i64 x, x147, x148, x149, by simp only [Act.put, List.setIfInBounds_toArray, List.set_cons_zero, List.set_cons_succ], B, up_ p131, up_ p132, up_ p133, up_ p134, up_ p135, up_ p136, up_ p137, up_ p138, up_ p139, up_ p140, fun _ => rfl, up_ p142, up_ p143, up_ p144, fun _ => rfl, fun _ => rfl, up_ p147, up_ p148, up_ p149⟩
                            case op16 => as_aux_lemma =>
                              intro bb a_ w' h_
                              obtain ⟨x131, x132, x133, x134, x135, h_⟩ := h_
                              obtain ⟨x136, x137, x138, x139, x140, h_⟩ := h_
                              obtain ⟨x141, x142, x143, x144, x145, h_⟩ := h_
                              obtain ⟨x146, x147, x148, x149, h_⟩ := h_
                              obtain ⟨e_, h_⟩ := h_
                              subst e_
                              obtain ⟨B, p131, p132, p133, p134, h_⟩ := h_
                              obtain ⟨p135, p136, p137, p138, p139, h_⟩ := h_
                              obtain ⟨p140, p141, p142, p143, p144, h_⟩ := h_
                              obtain ⟨p145, p146, p147, p148, h_⟩ := h_
                              have p149 := h_
                              clear h_
                              intro hb hd K hK
                              simp only [Act.put, List.setIfInBounds_toArray, List.set_cons_zero, List.set_cons_succ]
                              obtain rfl := (p141 (hd 10 (by decide))).symm
                              obtain rfl := (p142 (hd 11 (by decide))).symm
                              obtain rfl := (p146 (hd 15 (by decide))).symm
                              rw [if_pos (by rfl)]
                              have hn := HW.out.next B
                              have hl := hn.is HZ.out
                              go_simp
                              exact hK _ _ ⟨x131, x132, x133, x134, x135, x136, x137, x138, x139, x140, .bool true, .map (some gm), x143, x144, x145, .int .i64 x, .bool true, x148, x149, by simp only [Act.put, List.setIfInBounds_toArray, List.set_cons_zero, List.set_cons_succ], B, up_ p131, up_ p132, up_ p133, up_ p134, up_ p135, up_ p136, up_ p137, up_ p138, up_ p139, up_ p140, fun _ => rfl, fun _ => rfl, up_ p143, up_ p144, up_ p145, fun _ => rfl, fun _ => rfl, up_ p148, up_ p149⟩
                            case op17 => as_aux_lemma =>
                              intro bb a_ w' h_
                              obtain ⟨x131, x132, x133, x134, x135, h_⟩ := h_
                              obtain ⟨x136, x137, x138, x139, x140, h_⟩ := h_
                              obtain ⟨x141, x142, x143, x144, x145, h_⟩ := h_
                              obtain ⟨x146, x147, x148, x149, h_⟩ := h_
                              obtain ⟨e_, h_⟩ := h_
                              subst e_
                              obtain ⟨B, p131, p132, p133, p134, h_⟩ := h_
                              obtain ⟨p135, p136, p137, p138, p139, h_⟩ := h_
                              obtain ⟨p140, p141, p142, p143, p144, h_⟩ := h_
                              obtain ⟨p145, p146, p147, p148, h_⟩ := h_
                              have p149 := h_
                              clear h_
                              intro hb hd K hK
                              simp only [Act.put, List.setIfInBounds_toArray, List.set_cons_zero, List.set_cons_succ]
                              obtain rfl := (p141 (hd 10 (by decide))).symm
                              obtain rfl := (p147 (hd 16 (by decide))).symm
                              rw [if_pos (by rfl)]
                              go_simp
                              exact hK _ _ ⟨x131, x132, x133, x134, x135, x136, x137, x138, x139, x140, .bool true, x142, x143, x144, x145, x146, .bool true, .bool false, x149, by simp only [Act.put, List.setIfInBounds_toArray, List.set_cons_zero, List.set_cons_succ], B, up_ p131, up_ p132, up_ p133, up_ p134, up_ p135, up_ p136, up_ p137, up_ p138, up_ p139, up_ p140, fun _ => rfl, up_ p142, up_ p143, up_ p144, up_ p145, up_ p146, fun _ => rfl, fun _ => rfl, up_ p149⟩
                            case op18 => as_aux_lemma =>
                              intro bb a_ w' h_
                              obtain ⟨x131, x132, x133, x134, x135, h_⟩ := h_
                              obtain ⟨x136, x137, x138, x139, x140, h_⟩ := h_
                              obtain ⟨x141, x142, x143, x144, x145, h_⟩ := h_
                              obtain ⟨x146, x147, x148, x149, h_⟩ := h_
                              obtain ⟨e_, h_⟩ := h_
                              subst e_
                              obtain ⟨B, p131, p132, p133, p134, h_⟩ := h_
                              obtain ⟨p135, p136, p137, p138, p139, h_⟩ := h_
                              obtain ⟨p140, p141, p142, p143, p144, h_⟩ := h_
                              obtain ⟨p145, p146, p147, p148, h_⟩ := h_
                              have p149 := h_
                              clear h_
                              intro hb hd K hK
                              simp only [Act.put, List.setIfInBounds_toArray, List.set_cons_zero, List.set_cons_succ]
                              obtain rfl := (p141 (hd 10 (by decide))).symm
                              obtain rfl := (p148 (hd 17 (by decide))).symm
                              rw [if_pos (by rfl)]
                              go_simp
                              exact hK _ _ ⟨x131, x132, x133, x134, x135, x136, x137, x138, x139, x140, .bool true, x142, x143, x144, x145, x146, x147, .bool false, .bool false, by simp only [Act.put, List.setIfInBounds_toArray, List.set_cons_zero, List.set_cons_succ], B, up_ p131, up_ p132, up_ p133, up_ p134, up_ p135, up_ p136, up_ p137, up_ p138, up_ p139, up_ p140, fun _ => rfl, up_ p142, up_ p143, up_ p144, up_ p145, up_ p146, up_ p147, fun _ => rfl, fun _ => rfl⟩
                            case done => as_aux_lemma =>
                              intro bb a_ w' hb h_
                              obtain ⟨x131, x132, x133, x134, x135, h_⟩ := h_
                              obtain ⟨x136, x137, x138, x139, x140, h_⟩ := h_
                              obtain ⟨x141, x142, x143, x144, x145, h_⟩ := h_
                              obtain ⟨x146, x147, x148, x149, h_⟩ := h_
                              obtain ⟨e_, h_⟩ := h_
                              subst e_
                              obtain ⟨B, p131, p132, p133, p134, h_⟩ := h_
                              obtain ⟨p135, p136, p137, p138, p139, h_⟩ := h_
                              obtain ⟨p140, p141, p142, p143, p144, h_⟩ := h_
                              obtain ⟨p145, p146, p147, p148, h_⟩ := h_
                              have p149 := h_
                              clear h_
                              obtain rfl := (p131 (hb 0 (by decide))).symm
                              obtain rfl := (p132 (hb 1 (by decide))).symm
                              obtain rfl := (p133 (hb 2 (by decide))).symm
                              obtain rfl := (p134 (hb 3 (by decide))).symm
                              obtain rfl := (p135 (hb 4 (by decide))).symm
                              obtain rfl := (p136 (hb 5 (by decide))).symm
                              obtain rfl := (p137 (hb 6 (by decide))).symm
                              obtain rfl := (p138 (hb 7 (by decide))).symm
                              obtain rfl := (p139 (hb 8 (by decide))).symm
                              obtain rfl := (p140 (hb 9 (by decide))).symm
                              obtain rfl := (p141 (hb 10 (by decide))).symm
                              obtain rfl := (p142 (hb 11 (by decide))).symm
                              obtain rfl := (p143 (hb 12 (by decide))).symm
                              obtain rfl := (p144 (hb 13 (by decide))).symm
                              obtain rfl := (p145 (hb 14 (by decide))).symm
                              obtain rfl := (p146 (hb 15 (by decide))).symm
                              obtain rfl := (p147 (hb 16 (by decide))).symm
                              obtain rfl := (p148 (hb 17 (by decide))).symm
                              obtain rfl := (p149 (hb 18 (by decide))).symm
                              simp only [Act.put, List.setIfInBounds_toArray, List.set_cons_zero, List.set_cons_succ]
                              have HWB := Lib.hid (HW.out.next B)
                              have HNB := Lib.hid (Kd.Q_below HN.out B)
                              clear hb B HW HN WK hx1 hlo HZ
                              go_wp2_with fail
                              go_roundg k2
                              case measure => omega
                              case rel => exact ⟨j + 1, S, wl, by push_cast; rfl, by omega, by omega, HE2, HWB, HNB⟩
                          | false =>
                            rw [if_pos ⟨rfl, rfl⟩] at hX
                            obtain ⟨gt, hgt⟩ : ∃ z, (S t).getD 0 = z := ⟨_, rfl⟩
                            rw [hgt] at hX
                            have HGT := Lib.hid hgt
                            clear hgt
                            by_cases hgu : 0 ≤ gt ∧ gt ≤ 100000 ∧ wl.length ≤ 100000
                            rotate_left
                            · rw [if_neg hgu] at hX; cases hX
                            rw [if_pos hgu] at hX
                            have HE2 := Lib.hid hX
                            clear hX
                            go_upto_region 25 with fail
                            refine wp_region_inv (fun a0 w_0 b a' w' => ∃ x131 x132 x133 x134 x135 x136 x137 x138 x139 x140 x141 x142 x143 x144 x145 x146 x147 x148 x149 : Value, a' = (((((((((((((((((((a0.put (some 131) x131).put (some 132) x132).put (some 133) x133).put (some 134) x134).put (some 135) x135).put (some 136) x136).put (some 137) x137).put (some 138) x138).put (some 139) x139).put (some 140) x140).put (some 141) x141).put (some 142) x142).put (some 143) x143).put (some 144) x144).put (some 145) x145).put (some 146) x146).put (some 147) x147).put (some 148) x148).put (some 149) x149) ∧ Below wr.heap.size wr w' ∧ (b 0 = true → x131 = .bool false) ∧ (b 1 = true → x132 = .bool true) ∧ (b 2 = true → x133 = .bool true) ∧ (b 3 = true → x134 = .agg #[.int .i64 a, .int .i64 bh, .string s]) ∧ (b 4 = true → x135 = .slice (some adn) nx.length cn) ∧ (b 5 = true → x136 = .int .i64 (j : Int)) ∧ (b 6 = true → x137 = .pointer (some (adn.add j))) ∧ (b 7 = true → x138 = .int .i64 x) ∧ (b 8 = true → x139 = .bool true) ∧ (b 9 = true → x140 = .bool true) ∧ (b 10 = true → x141 = .bool true) ∧ (b 11 = true → x142 = .map (some gm)) ∧ (b 12 = true → x143 = .slice (some adn) nx.length cn) ∧ (b 13 = true → x144 = .int .i64 (j : Int)) ∧ (b 14 = true → x145 = .pointer (some (adn.add j))) ∧ (b 15 = true → x146 = .int .i64 x) ∧ (b 16 = true → x147 = .bool false) ∧ (b 17 = true → x148 = .bool true) ∧ (b 18 = true → x149 = .bool true)) (by kernel_rfl) (by kernel_rfl) ?start ⟨?op0, ?op1, ?op2, ?op3, ?op4, ?op5, ?op6, ?op7, ?op8, ?op9, ?op10, ?op11, ?op12, ?op13, ?op14, ?op15, ?op16, ?op17, ?op18, trivial⟩ ?done
                            case start => exact ⟨_, _, _, _, _, _, _, _, _, _, _, _, _, _, _, _, _, _, _, by simp only [Act.put, List.setIfInBounds_toArray, List.set_cons_zero, List.set_cons_succ]; rfl, below_drew1 (Below.refl _ _), fun h => absurd h (by decide), fun h => absurd h (by decide), fun h => absurd h (by decide), fun h => absurd h (by decide), fun h => absurd h (by decide), fun h => absurd h (by decide), fun h => absurd h (by decide), fun h => absurd h (by decide), fun h => absurd h (by decide), fun h => absurd h (by decide), fun h => absurd h (by decide), fun h => absurd h (by decide), fun h => absurd h (by decide), fun h => absurd h (by decide), fun h => absurd h (by decide), fun h => absurd h (by decide), fun h => absurd h (by decide), fun h => absurd h (by decide), fun h => absurd h (by decide)⟩
                            case op0 => as_aux_lemma =>
                              intro bb a_ w' h_
                              obtain ⟨x131, x132, x133, x134, x135, h_⟩ := h_
                              obtain ⟨x136, x137, x138, x139, x140, h_⟩ := h_
                              obtain ⟨x141, x142, x143, x144, x145, h_⟩ := h_
                              obtain ⟨x146, x147, x148, x149, h_⟩ := h_
                              obtain ⟨e_, h_⟩ := h_
                              subst e_
                              obtain ⟨B, p131, p132, p133, p134, h_⟩ := h_
                              obtain ⟨p135, p136, p137, p138, p139, h_⟩ := h_
                              obtain ⟨p140, p141, p142, p143, p144, h_⟩ := h_
                              obtain ⟨p145, p146, p147, p148, h_⟩ := h_
                              have p149 := h_
                              clear h_
                              intro hb hd K hK
                              simp only [Act.put, List.setIfInBounds_toArray, List.set_cons_zero, List.set_cons_succ]
                              rw [if_pos (by rfl)]
                              go_simp
                              exact hK _ _ ⟨.bool false, x132, x133, x134, x135, x136, x137, x138, x139, x140, x141, x142, x143, x144, x145, x146, x147, x148, x149, by simp only [Act.put, List.setIfInBounds_toArray, List.set_cons_zero, List.set_cons_succ], B, fun _ => rfl, up_ p132, up_ p133, up_ p134, up_ p135, up_ p136, up_ p137, up_ p138, up_ p139, up_ p140, up_ p141, up_ p142, up_ p143, up_ p144, up_ p145, up_ p146, up_ p147, up_ p148, up_ p149⟩
                            case op1 => as_aux_lemma =>
                              intro bb a_ w' h_
                              obtain ⟨x131, x132, x133, x134, x135, h_⟩ := h_
                              obtain ⟨x136, x137, x138, x139, x140, h_⟩ := h_
                              obtain ⟨x141, x142, x143, x144, x145, h_⟩ := h_
                              obtain ⟨x146, x147, x148, x149, h_⟩ := h_
                              obtain ⟨e_, h_⟩ := h_
                              subst e_
                              obtain ⟨B, p131, p132, p133, p134, h_⟩ := h_
                              obtain ⟨p135, p136, p137, p138, p139, h_⟩ := h_
                              obtain ⟨p140, p141, p142, p143, p144, h_⟩ := h_
                              obtain ⟨p145, p146, p147, p148, h_⟩ := h_
                              have p149 := h_
                              clear h_
                              intro hb hd K hK
                              simp only [Act.put, List.setIfInBounds_toArray, List.set_cons_zero, List.set_cons_succ]
                              obtain rfl := (p131 (hd 0 (by decide))).symm
                              rw [if_pos (by rfl)]
                              go_simp
                              exact hK _ _ ⟨.bool false, .bool true, x133, x134, x135, x136, x137, x138, x139, x140, x141, x142, x143, x144, x145, x146, x147, x148, x149, by simp only [Act.put, List.setIfInBounds_toArray, List.set_cons_zero, List.set_cons_succ], B, fun _ => rfl, fun _ => rfl, up_ p133, up_ p134, up_ p135, up_ p136, up_ p137, up_ p138, up_ p139, up_ p140, up_ p141, up_ p142, up_ p143, up_ p144, up_ p145, up_ p146, up_ p147, up_ p148, up_ p149⟩
                            case op2 => as_aux_lemma =>
                              intro bb a_ w' h_
                              obtain ⟨x131, x132, x133, x134, x135, h_⟩ := h_
                              obtain ⟨x136, x137, x138, x139, x140, h_⟩ := h_
                              obtain ⟨x141, x142, x143, x144, x145, h_⟩ := h_
                              obtain ⟨x146, x147, x148, x149, h_⟩ := h_
                              obtain ⟨e_, h_⟩ := h_
                              subst e_
                              obtain ⟨B, p131, p132, p133, p134, h_⟩ := h_
                              obtain ⟨p135, p136, p137, p138, p139, h_⟩ := h_
                              obtain ⟨p140, p141, p142, p143, p144, h_⟩ := h_
                              obtain ⟨p145, p146, p147, p148, h_⟩ := h_
                              have p149 := h_
                              clear h_
                              intro hb hd K hK
                              simp only [Act.put, List.setIfInBounds_toArray, List.set_cons_zero, List.set_cons_succ]
                              obtain rfl := (p132 (hd 1 (by decide))).symm
                              rw [if_pos (by rfl)]
                              go_simp
                              exact hK _ _ ⟨x131, .bool true, .bool true, x134, x135, x136, x137, x138, x139, x140, x141, x142, x143, x144, x145, x146, x147, x148, x149, by simp only [Act.put, List.setIfInBounds_toArray, List.set_cons_zero, List.set_cons_succ], B, up_ p131, fun _ => rfl, fun _ => rfl, up_ p134, up_ p135, up_ p136, up_ p137, up_ p138, up_ p139, up_ p140, up_ p141, up_ p142, up_ p143, up_ p144, up_ p145, up_ p146, up_ p147, up_ p148, up_ p149⟩
                            case op3 => as_aux_lemma =>
                              intro bb a_ w' h_
                              obtain ⟨x131, x132, x133, x134, x135, h_⟩ := h_
                              obtain ⟨x136, x137, x138, x139, x140, h_⟩ := h_
                              obtain ⟨x141, x142, x143, x144, x145, h_⟩ := h_
                              obtain ⟨x146, x147, x148, x149, h_⟩ := h_
                              obtain ⟨e_, h_⟩ := h_
                              subst e_
                              obtain ⟨B, p131, p132, p133, p134, h_⟩ := h_
                              obtain ⟨p135, p136, p137, p138, p139, h_⟩ := h_
                              obtain ⟨p140, p141, p142, p143, p144, h_⟩ := h_
                              obtain ⟨p145, p146, p147, p148, h_⟩ := h_
                              have p149 := h_
                              clear h_
                              intro hb hd K hK
                              simp only [Act.put, List.setIfInBounds_toArray, List.set_cons_zero, List.set_cons_succ]
                              obtain rfl := (p133 (hd 2 (by decide))).symm
                              rw [if_pos (by rfl)]
                              have hn := HW.out.next B
                              obtain ⟨c0, c1', c2⟩ := cells3 hn.blk
                              go_simp
                              exact hK _ _ ⟨x131, x132, .bool true, .agg #[.int .i64 a, .int .i64 bh, .string s], x135, x136, x137, x138, x139, x140, x141, x142, x143, x144, x145, x146, x147, x148, x149, by simp only [Act.put, List.setIfInBounds_toArray, List.set_cons_zero, List.set_cons_succ], B, up_ p131, up_ p132, fun _ => rfl, fun _ => rfl, up_ p135, up_ p136, up_ p137, up_ p138, up_ p139, up_ p140, up_ p141, up_ p142, up_ p143, up_ p144, up_ p145, up_ p146, up_ p147, up_ p148, up_ p149⟩
                            case op4 => as_aux_lemma =>
                              intro bb a_ w' h_
                              obtain ⟨x131, x132, x133, x134, x135, h_⟩ := h_
                              obtain ⟨x136, x137, x138, x139, x140, h_⟩ := h_
                              obtain ⟨x141, x142, x143, x144, x145, h_⟩ := h_
                              obtain ⟨x146, x147, x148, x149, h_⟩ := h_
                              obtain ⟨e_, h_⟩ := h_
                              subst e_
                              obtain ⟨B, p131, p132, p133, p134, h_⟩ := h_
                              obtain ⟨p135, p136, p137, p138, p139, h_⟩ := h_
                              obtain ⟨p140, p141, p142, p143, p144, h_⟩ := h_
                              obtain ⟨p145, p146, p147, p148, h_⟩ := h_
                              have p149 := h_
                              clear h_
                              intro hb hd K hK
                              simp only [Act.put, List.setIfInBounds_toArray, List.set_cons_zero, List.set_cons_succ]
                              obtain rfl := (p133 (hd 2 (by decide))).symm
                              rw [if_pos (by rfl)]
                              go_simp
                              exact hK _ _ ⟨x131, x132, .bool true, x134, .slice (some adn) nx.length cn, x136, x137, x138, x139, x140, x141, x142, x143, x144, x145, x146, x147, x148, x149, by simp only [Act.put, List.setIfInBounds_toArray, List.set_cons_zero, List.set_cons_succ], B, up_ p131, up_ p132, fun _ => rfl, up_ p134, fun _ => rfl, up_ p136, up_ p137, up_ p138, up_ p139, up_ p140, up_ p141, up_ p142, up_ p143, up_ p144, up_ p145, up_ p146, up_ p147, up_ p148, up_ p149⟩
                            case op5 => as_aux_lemma =>
                              intro bb a_ w' h_
                              obtain ⟨x131, x132, x133, x134, x135, h_⟩ := h_
                              obtain ⟨x136, x137, x138, x139, x140, h_⟩ := h_
                              obtain ⟨x141, x142, x143, x144, x145, h_⟩ := h_
                              obtain ⟨x146, x147, x148, x149, h_⟩ := h_
                              obtain ⟨e_, h_⟩ := h_
                              subst e_
                              obtain ⟨B, p131, p132, p133, p134, h_⟩ := h_
                              obtain ⟨p135, p136, p137, p138, p139, h_⟩ := h_
                              obtain ⟨p140, p141, p142, p143, p144, h_⟩ := h_
                              obtain ⟨p145, p146, p147, p148, h_⟩ := h_
                              have p149 := h_
                              clear h_
                              intro hb hd K hK
                              simp only [Act.put, List.setIfInBounds_toArray, List.set_cons_zero, List.set_cons_succ]
                              obtain rfl := (p133 (hd 2 (by decide))).symm
                              rw [if_pos (by rfl)]
                              go_simp
                              exact hK _ _ ⟨x131, x132, .bool true, x134, x135, .int .i64 (j : Int), x137, x138, x139, x140, x141, x142, x143, x144, x145, x146, x147, x148, x149, by simp only [Act.put, List.setIfInBounds_toArray, List.set_cons_zero, List.set_cons_succ], B, up_ p131, up_ p132, fun _ => rfl, up_ p134, up_ p135, fun _ => rfl, up_ p137, up_ p138, up_ p139, up_ p140, up_ p141, up_ p142, up_ p143, up_ p144, up_ p145, up_ p146, up_ p147, up_ p148, up_ p149⟩
                            case op6 => as_aux_lemma =>
                              intro bb a_ w' h_
                              obtain ⟨x131, x132, x133, x134, x135, h_⟩ := h_
                              obtain ⟨x136, x137, x138, x139, x140, h_⟩ := h_
                              obtain ⟨x141, x142, x143, x144, x145, h_⟩ := h_
                              obtain ⟨x146, x147, x148, x149, h_⟩ := h_
                              obtain ⟨e_, h_⟩ := h_
                              subst e_
                              obtain ⟨B, p131, p132, p133, p134, h_⟩ := h_
                              obtain ⟨p135, p136, p137, p138, p139, h_⟩ := h_
                              obtain ⟨p140, p141, p142, p143, p144, h_⟩ := h_
                              obtain ⟨p145, p146, p147, p148, h_⟩ := h_
                              have p149 := h_
                              clear h_
                              intro hb hd K hK
                              simp only [Act.put, List.setIfInBounds_toArray, List.set_cons_zero, List.set_cons_succ]
                              obtain rfl := (p133 (hd 2 (by decide))).symm
                              obtain rfl := (p135 (hd 4 (by decide))).symm
                              obtain rfl := (p136 (hd 5 (by decide))).symm
                              rw [if_pos (by rfl)]
                              go_simp
                              exact hK _ _ ⟨x131, x132, .bool true, x134, .slice (some adn) nx.length cn, .int .i64 (j : Int), .pointer (some (adn.add j)), x138, x139, x140, x141, x142, x143, x144, x145, x146, x147, x148, x149, by simp only [Act.put, List.setIfInBounds_toArray, List.set_cons_zero, List.set_cons_succ], B, up_ p131, up_ p132, fun _ => rfl, up_ p134, fun _ => rfl, fun _ => rfl, fun _ => rfl, up_ p138, up_ p139, up_ p140, up_ p141, up_ p142, up_ p143, up_ p144, up_ p145, up_ p146, up_ p147, up_ p148, up_ p149⟩
                            case op7 => as_aux_lemma =>
                              intro bb a_ w' h_
                              obtain ⟨x131, x132, x133, x134, x135, h_⟩ := h_
                              obtain ⟨x136, x137, x138, x139, x140, h_⟩ := h_
                              obtain ⟨x141, x142, x143, x144, x145, h_⟩ := h_
                              obtain ⟨x146, x147, x148, x149, h_⟩ := h_
                              obtain ⟨e_, h_⟩ := h_
                              subst e_
                              obtain ⟨B, p131, p132, p133, p134, h_⟩ := h_
                              obtain ⟨p135, p136, p137, p138, p139, h_⟩ := h_
                              obtain ⟨p140, p141, p142, p143, p144, h_⟩ := h_
                              obtain ⟨p145, p146, p147, p148, h_⟩ := h_
                              have p149 := h_
                              clear h_
                              intro hb hd K hK
                              simp only [Act.put, List.setIfInBounds_toArray, List.set_cons_zero, List.set_cons_succ]
                              obtain rfl := (p133 (hd 2 (by decide))).symm
                              obtain rfl := (p137 (hd 6 (by decide))).symm
                              rw [if_pos (by rfl)]
                              have hx0 := nx_at (Kd.Q_below HN.out B) hjn HX.out
                              go_simp
                              exact hK _ _ ⟨x131, x132, .bool true, x134, x135, x136, .pointer (some (adn.add j)), .int .i64 x, x139, x140, x141, x142, x143, x144, x145, x146, x147, x148, x149, by simp only [Act.put, List.setIfInBounds_toArray, List.set_cons_zero, List.set_cons_succ], B, up_ p131, up_ p132, fun _ => rfl, up_ p134, up_ p135, up_ p136, fun _ => rfl, fun _ => rfl, up_ p139, up_ p140, up_ p141, up_ p142, up_ p143, up_ p144, up_ p145, up_ p146, up_ p147, up_ p148, up_ p149⟩
                            case op8 => as_aux_lemma =>
                              intro bb a_ w' h_
                              obtain ⟨x131, x132, x133, x134, x135, h_⟩ := h_
                              obtain ⟨x136, x137, x138, x139, x140, h_⟩ := h_
                              obtain ⟨x141, x142, x143, x144, x145, h_⟩ := h_
                              obtain ⟨x146, x147, x148, x149, h_⟩ := h_
                              obtain ⟨e_, h_⟩ := h_
                              subst e_
                              obtain ⟨B, p131, p132, p133, p134, h_⟩ := h_
                              obtain ⟨p135, p136, p137, p138, p139, h_⟩ := h_
                              obtain ⟨p140, p141, p142, p143, p144, h_⟩ := h_
                              obtain ⟨p145, p146, p147, p148, h_⟩ := h_
                              have p149 := h_
                              clear h_
                              intro hb hd K hK
                              simp only [Act.put, List.setIfInBounds_toArray, List.set_cons_zero, List.set_cons_succ]
                              obtain rfl := (p133 (hd 2 (by decide))).symm
                              obtain rfl := (p134 (hd 3 (by decide))).symm
                              obtain rfl := (p138 (hd 7 (by decide))).symm
                              rw [if_pos (by rfl)]
                              go_simp
                              refine (WK.out _).mono ?_
                              rintro e w2 ⟨rfl, hb2⟩
                              exact hK _ _ ⟨x131, x132, .bool true, .agg #[.int .i64 a, .int .i64 bh, .string s], x135, x136, x137, .int .i64 x, .bool true, x140, x141, x142, x143, x144, x145, x146, x147, x148, x149, by simp only [Act.put, List.setIfInBounds_toArray, List.set_cons_zero, List.set_cons_succ], below_then B B.size hb2, up_ p131, up_ p132, fun _ => rfl, fun _ => rfl, up_ p135, up_ p136, up_ p137, fun _ => rfl, fun _ => rfl, up_ p140, up_ p141, up_ p142, up_ p143, up_ p144, up_ p145, up_ p146, up_ p147, up_ p148, up_ p149⟩
                            case op9 => as_aux_lemma =>
                              intro bb a_ w' h_
                              obtain ⟨x131, x132, x133, x134, x135, h_⟩ := h_
                              obtain ⟨x136, x137, x138, x139, x140, h_⟩ := h_
                              obtain ⟨x141, x142, x143, x144, x145, h_⟩ := h_
                              obtain ⟨x146, x147, x148, x149, h_⟩ := h_
                              obtain ⟨e_, h_⟩ := h_
                              subst e_
                              obtain ⟨B, p131, p132, p133, p134, h_⟩ := h_
                              obtain ⟨p135, p136, p137, p138, p139, h_⟩ := h_
                              obtain ⟨p140, p141, p142, p143, p144, h_⟩ := h_
                              obtain ⟨p145, p146, p147, p148, h_⟩ := h_
                              have p149 := h_
                              clear h_
                              intro hb hd K hK
                              simp only [Act.put, List.setIfInBounds_toArray, List.set_cons_zero, List.set_cons_succ]
                              obtain rfl := (p133 (hd 2 (by decide))).symm
                              obtain rfl := (p139 (hd 8 (by decide))).symm
                              rw [if_pos (by rfl)]
                              go_simp
                              exact hK _ _ ⟨x131, x132, .bool true, x134, x135, x136, x137, x138, .bool true, .bool true, x141, x142, x143, x144, x145, x146, x147, x148, x149, by simp only [Act.put, List.setIfInBounds_toArray, List.set_cons_zero, List.set_cons_succ], B, up_ p131, up_ p132, fun _ => rfl, up_ p134, up_ p135, up_ p136, up_ p137, up_ p138, fun _ => rfl, fun _ => rfl, up_ p141, up_ p142, up_ p143, up_ p144, up_ p145, up_ p146, up_ p147, up_ p148, up_ p149⟩
                            case op10 => as_aux_lemma =>
                              intro bb a_ w' h_
                              obtain ⟨x131, x132, x133, x134, x135, h_⟩ := h_
                              obtain ⟨x136, x137, x138, x139, x140, h_⟩ := h_
                              obtain ⟨x141, x142, x143, x144, x145, h_⟩ := h_
                              obtain ⟨x146, x147, x148, x149, h_⟩ := h_
                              obtain ⟨e_, h_⟩ := h_
                              subst e_
                              obtain ⟨B, p131, p132, p133, p134, h_⟩ := h_
                              obtain ⟨p135, p136, p137, p138, p139, h_⟩ := h_
                              obtain ⟨p140, p141, p142, p143, p144, h_⟩ := h_
                              obtain ⟨p145, p146, p147, p148, h_⟩ := h_
                              have p149 := h_
                              clear h_
                              intro hb hd K hK
                              simp only [Act.put, List.setIfInBounds_toArray, List.set_cons_zero, List.set_cons_succ]
                              obtain rfl := (p140 (hd 9 (by decide))).symm
                              rw [if_pos (by rfl)]
                              go_simp
                              exact hK _ _ ⟨x131, x132, x133, x134, x135, x136, x137, x138, x139, .bool true, .bool true, x142, x143, x144, x145, x146, x147, x148, x149, by simp only [Act.put, List.setIfInBounds_toArray, List.set_cons_zero, List.set_cons_succ], B, up_ p131, up_ p132, up_ p133, up_ p134, up_ p135, up_ p136, up_ p137, up_ p138, up_ p139, fun _ => rfl, fun _ => rfl, up_ p142, up_ p143, up_ p144, up_ p145, up_ p146, up_ p147, up_ p148, up_ p149⟩
                            case op11 => as_aux_lemma =>
                              intro bb a_ w' h_
                              obtain ⟨x131, x132, x133, x134, x135, h_⟩ := h_
                              obtain ⟨x136, x137, x138, x139, x140, h_⟩ := h_
                              obtain ⟨x141, x142, x143, x144, x145, h_⟩ := h_
                              obtain ⟨x146, x147, x148, x149, h_⟩ := h_
                              obtain ⟨e_, h_⟩ := h_
                              subst e_
                              obtain ⟨B, p131, p132, p133, p134, h_⟩ := h_
                              obtain ⟨p135, p136, p137, p138, p139, h_⟩ := h_
                              obtain ⟨p140, p141, p142, p143, p144, h_⟩ := h_
                              obtain ⟨p145, p146, p147, p148, h_⟩ := h_
                              have p149 := h_
                              clear h_
                              intro hb hd K hK
                              simp only [Act.put, List.setIfInBounds_toArray, List.set_cons_zero, List.set_cons_succ]
                              obtain rfl := (p141 (hd 10 (by decide))).symm
                              rw [if_pos (by rfl)]
                              have hn := HW.out.next B
                              have c19 := (blk_cell hn.var 0).trans rfl
                              go_simp
                              exact hK _ _ ⟨x131, x132, x133, x134, x135, x136, x137, x138, x139, x140, .bool true, .map (some gm), x143, x144, x145, x146, x147, x148, x149, by simp only [Act.put, List.setIfInBounds_toArray, List.set_cons_zero, List.set_cons_succ], B, up_ p131, up_ p132, up_ p133, up_ p134, up_ p135, up_ p136, up_ p137, up_ p138, up_ p139, up_ p140, fun _ => rfl, fun _ => rfl, up_ p143, up_ p144, up_ p145, up_ p146, up_ p147, up_ p148, up_ p149⟩
                            case op12 => as_aux_lemma =>
                              intro bb a_ w' h_
                              obtain ⟨x131, x132, x133, x134, x135, h_⟩ := h_
                              obtain ⟨x136, x137, x138, x139, x140, h_⟩ := h_
                              obtain ⟨x141, x142, x143, x144, x145, h_⟩ := h_
                              obtain ⟨x146, x147, x148, x149, h_⟩ := h_
                              obtain ⟨e_, h_⟩ := h_
                              subst e_
                              obtain ⟨B, p131, p132, p133, p134, h_⟩ := h_
                              obtain ⟨p135, p136, p137, p138, p139, h_⟩ := h_
                              obtain ⟨p140, p141, p142, p143, p144, h_⟩ := h_
                              obtain ⟨p145, p146, p147, p148, h_⟩ := h_
                              have p149 := h_
                              clear h_
                              intro hb hd K hK
                              simp only [Act.put, List.setIfInBounds_toArray, List.set_cons_zero, List.set_cons_succ]
                              obtain rfl := (p141 (hd 10 (by decide))).symm
                              rw [if_pos (by rfl)]
                              go_simp
                              exact hK _ _ ⟨x131, x132, x133, x134, x135, x136, x137, x138, x139, x140, .bool true, x142, .slice (some adn) nx.length cn, x144, x145, x146, x147, x148, x149, by simp only [Act.put, List.setIfInBounds_toArray, List.set_cons_zero, List.set_cons_succ], B, up_ p131, up_ p132, up_ p133, up_ p134, up_ p135, up_ p136, up_ p137, up_ p138, up_ p139, up_ p140, fun _ => rfl, up_ p142, fun _ => rfl, up_ p144, up_ p145, up_ p146, up_ p147, up_ p148, up_ p149⟩
                            case op13 => as_aux_lemma =>
                              intro bb a_ w' h_
                              obtain ⟨x131, x132, x133, x134, x135, h_⟩ := h_
                              obtain ⟨x136, x137, x138, x139, x140, h_⟩ := h_
                              obtain ⟨x141, x142, x143, x144, x145, h_⟩ := h_
                              obtain ⟨x146, x147, x148, x149, h_⟩ := h_
                              obtain ⟨e_, h_⟩ := h_
                              subst e_
                              obtain ⟨B, p131, p132, p133, p134, h_⟩ := h_
                              obtain ⟨p135, p136, p137, p138, p139, h_⟩ := h_
                              obtain ⟨p140, p141, p142, p143, p144, h_⟩ := h_
                              obtain ⟨p145, p146, p147, p148, h_⟩ := h_
                              have p149 := h_
                              clear h_
                              intro hb hd K hK
                              simp only [Act.put, List.setIfInBounds_toArray, List.set_cons_zero, List.set_cons_succ]
                              obtain rfl := (p141 (hd 10 (by decide))).symm
                              rw [if_pos (by rfl)]
                              go_simp
                              exact hK _ _ ⟨x131, x132, x133, x134, x135, x136, x137, x138, x139, x140, .bool true, x142, x143, .int .i64 (j : Int), x145, x146, x147, x148, x149, by simp only [Act.put, List.setIfInBounds_toArray, List.set_cons_zero, List.set_cons_succ], B, up_ p131, up_ p132, up_ p133, up_ p134, up_ p135, up_ p136, up_ p137, up_ p138, up_ p139, up_ p140, fun _ => rfl, up_ p142, up_ p143, fun _ => rfl, up_ p145, up_ p146, up_ p147, up_ p148, up_ p149⟩
                            case op14 => as_aux_lemma =>
                              intro bb a_ w' h_
                              obtain ⟨x131, x132, x133, x134, x135, h_⟩ := h_
                              obtain ⟨x136, x137, x138, x139, x140, h_⟩ := h_
                              obtain ⟨x141, x142, x143, x144, x145, h_⟩ := h_
                              obtain ⟨x146, x147, x148, x149, h_⟩ := h_
                              obtain ⟨e_, h_⟩ := h_
                              subst e_
                              obtain ⟨B, p131, p132, p133, p134, h_⟩ := h_
                              obtain ⟨p135, p136, p137, p138, p139, h_⟩ := h_
                              obtain ⟨p140, p141, p142, p143, p144, h_⟩ := h_
                              obtain ⟨p145, p146, p147, p148, h_⟩ := h_
                              have p149 := h_
                              clear h_
                              intro hb hd K hK
                              simp only [Act.put, List.setIfInBounds_toArray, List.set_cons_zero, List.set_cons_succ]
                              obtain rfl := (p141 (hd 10 (by decide))).symm
                              obtain rfl := (p143 (hd 12 (by decide))).symm
                              obtain rfl := (p144 (hd 13 (by decide))).symm
                              rw [if_pos (by rfl)]
                              go_simp
                              exact hK _ _ ⟨x131, x132, x133, x134, x135, x136, x137, x138, x139, x140, .bool true, x142, .slice (some adn) nx.length cn, .int .i64 (j : Int), .pointer (some (adn.add j)), x146, x147, x148, x149, by simp only [Act.put, List.setIfInBounds_toArray, List.set_cons_zero, List.set_cons_succ], B, up_ p131, up_ p132, up_ p133, up_ p134, up_ p135, up_ p136, up_ p137, up_ p138, up_ p139, up_ p140, fun _ => rfl, up_ p142, fun _ => rfl, fun _ => rfl, fun _ => rfl, up_ p146, up_ p147, up_ p148, up_ p149⟩
                            case op15 => as_aux_lemma =>
                              intro bb a_ w' h_
                              obtain ⟨x131, x132, x133, x134, x135, h_⟩ := h_
                              obtain ⟨x136, x137, x138, x139, x140, h_⟩ := h_
                              obtain ⟨x141, x142, x143, x144, x145, h_⟩ := h_
                              obtain ⟨x146, x147, x148, x149, h_⟩ := h_
                              obtain ⟨e_, h_⟩ := h_
                              subst e_
                              obtain ⟨B, p131, p132, p133, p134, h_⟩ := h_
                              obtain ⟨p135, p136, p137, p138, p139, h_⟩ := h_
                              obtain ⟨p140, p141, p142, p143, p144, h_⟩ := h_
                              obtain ⟨p145, p146, p147, p148, h_⟩ := h_
                              have p149 := h_
                              clear h_
                              intro hb hd K hK
                              simp only [Act.put, List.setIfInBounds_toArray, List.set_cons_zero, List.set_cons_succ]
                              obtain rfl := (p141 (hd 10 (by decide))).symm
                              obtain rfl := (p145 (hd 14 (by decide))).symm
                              rw [if_pos (by rfl)]
                              have hx0 := nx_at (Kd.Q_below HN.out B) hjn HX.out
                              go_simp
                              exact hK _ _ ⟨x131, x132, x133, x134, x135, x136, x137, x138, x139, x140, .bool true, x142, x143, x144, .pointer (some (adn.add j)), .int .i64 x, x147, x148, x149, by simp only [Act.put, List.setIfInBounds_toArray, List.set_cons_zero, List.set_cons_succ], B, up_ p131, up_ p132, up_ p133, up_ p134, up_ p135, up_ p136, up_ p137, up_ p138, up_ p139, up_ p140, fun _ => rfl, up_ p142, up_ p143, up_ p144, fun _ => rfl, fun _ => rfl, up_ p147, up_ p148, up_ p149⟩
                            case op16 => as_aux_lemma =>
                              intro bb a_ w' h_
                              obtain ⟨x131, x132, x133, x134, x135, h_⟩ := h_
                              obtain ⟨x136, x137, x138, x139, x140, h_⟩ := h_
                              obtain ⟨x141, x142, x143, x144, x145, h_⟩ := h_
                              obtain ⟨x146, x147, x148, x149, h_⟩ := h_
                              obtain ⟨e_, h_⟩ := h_
                              subst e_
                              obtain ⟨B, p131, p132, p133, p134, h_⟩ := h_
                              obtain ⟨p135, p136, p137, p138, p139, h_⟩ := h_
                              obtain ⟨p140, p141, p142, p143, p144, h_⟩ := h_
                              obtain ⟨p145, p146, p147, p148, h_⟩ := h_
                              have p149 := h_
                              clear h_
                              intro hb hd K hK
                              simp only [Act.put, List.setIfInBounds_toArray, List.set_cons_zero, List.set_cons_succ]
                              obtain rfl := (p141 (hd 10 (by decide))).symm
                              obtain rfl := (p142 (hd 11 (by decide))).symm
                              obtain rfl := (p146 (hd 15 (by decide))).symm
                              rw [if_pos (by rfl)]
                              have hn := HW.out.next B
                              have hl := hn.is HZ.out
                              go_simp
                              exact hK _ _ ⟨x131, x132, x133, x134, x135, x136, x137, x138, x139, x140, .bool true, .map (some gm), x143, x144, x145, .int .i64 x, .bool false, x148, x149, by simp only [Act.put, List.setIfInBounds_toArray, List.set_cons_zero, List.set_cons_succ], B, up_ p131, up_ p132, up_ p133, up_ p134, up_ p135, up_ p136, up_ p137, up_ p138, up_ p139, up_ p140, fun _ => rfl, fun _ => rfl, up_ p143, up_ p144, up_ p145, fun _ => rfl, fun _ => rfl, up_ p148, up_ p149⟩
                            case op17 => as_aux_lemma =>
                              intro bb a_ w' h_
                              obtain ⟨x131, x132, x133, x134, x135, h_⟩ := h_
                              obtain ⟨x136, x137, x138, x139, x140, h_⟩ := h_
                              obtain ⟨x141, x142, x143, x144, x145, h_⟩ := h_
                              obtain ⟨x146, x147, x148, x149, h_⟩ := h_
                              obtain ⟨e_, h_⟩ := h_
                              subst e_
                              obtain ⟨B, p131, p132, p133, p134, h_⟩ := h_
                              obtain ⟨p135, p136, p137, p138, p139, h_⟩ := h_
                              obtain ⟨p140, p141, p142, p143, p144, h_⟩ := h_
                              obtain ⟨p145, p146, p147, p148, h_⟩ := h_
                              have p149 := h_
                              clear h_
                              intro hb hd K hK
                              simp only [Act.put, List.setIfInBounds_toArray, List.set_cons_zero, List.set_cons_succ]
                              obtain rfl := (p141 (hd 10 (by decide))).symm
                              obtain rfl := (p147 (hd 16 (by decide))).symm
                              rw [if_pos (by rfl)]
                              go_simp
                              exact hK _ _ ⟨x131, x132, x133, x134, x135, x136, x137, x138, x139, x140, .bool true, x142, x143, x144, x145, x146, .bool false, .bool true, x149, by simp only [Act.put, List.setIfInBounds_toArray, List.set_cons_zero, List.set_cons_succ], B, up_ p131, up_ p132, up_ p133, up_ p134, up_ p135, up_ p136, up_ p137, up_ p138, up_ p139, up_ p140, fun _ => rfl, up_ p142, up_ p143, up_ p144, up_ p145, up_ p146, fun _ => rfl, fun _ => rfl, up_ p149⟩
                            case op18 => as_aux_lemma =>
                              intro bb a_ w' h_
                              obtain ⟨x131, x132, x133, x134, x135, h_⟩ := h_
                              obtain ⟨x136, x137, x138, x139, x140, h_⟩ := h_
                              obtain ⟨x141, x142, x143, x144, x145, h_⟩ := h_
                              obtain ⟨x146, x147, x148, x149, h_⟩ := h_
                              obtain ⟨e_, h_⟩ := h_
                              subst e_
                              obtain ⟨B, p131, p132, p133, p134, h_⟩ := h_
                              obtain ⟨p135, p136, p137, p138, p139, h_⟩ := h_
                              obtain ⟨p140, p141, p142, p143, p144, h_⟩ := h_
                              obtain ⟨p145, p146, p147, p148, h_⟩ := h_
                              have p149 := h_
                              clear h_
                              intro hb hd K hK
                              simp only [Act.put, List.setIfInBounds_toArray, List.set_cons_zero, List.set_cons_succ]
                              obtain rfl := (p141 (hd 10 (by decide))).symm
                              obtain rfl := (p148 (hd 17 (by decide))).symm
                              rw [if_pos (by rfl)]
                              go_simp
                              exact hK _ _ ⟨x131, x132, x133, x134, x135, x136, x137, x138, x139, x140, .bool true, x142, x143, x144, x145, x146, x147, .bool true, .bool true, by simp only [Act.put, List.setIfInBounds_toArray, List.set_cons_zero, List.set_cons_succ], B, up_ p131, up_ p132, up_ p133, up_ p134, up_ p135, up_ p136, up_ p137, up_ p138, up_ p139, up_ p140, fun _ => rfl, up_ p142, up_ p143, up_ p144, up_ p145, up_ p146, up_ p147, fun _ => rfl, fun _ => rfl⟩
                            case done => as_aux_lemma =>
                              intro bb a_ w' hb h_
                              obtain ⟨x131, x132, x133, x134, x135, h_⟩ := h_
                              obtain ⟨x136, x137, x138, x139, x140, h_⟩ := h_
                              obtain ⟨x141, x142, x143, x144, x145, h_⟩ := h_
                              obtain ⟨x146, x147, x148, x149, h_⟩ := h_
                              obtain ⟨e_, h_⟩ := h_
                              subst e_
                              obtain ⟨B, p131, p132, p133, p134, h_⟩ := h_
                              obtain ⟨p135, p136, p137, p138, p139, h_⟩ := h_
                              obtain ⟨p140, p141, p142, p143, p144, h_⟩ := h_
                              obtain ⟨p145, p146, p147, p148, h_⟩ := h_
                              have p149 := h_
                              clear h_
                              obtain rfl := (p131 (hb 0 (by decide))).symm
                              obtain rfl := (p132 (hb 1 (by decide))).symm
                              obtain rfl := (p133 (hb 2 (by decide))).symm
                              obtain rfl := (p134 (hb 3 (by decide))).symm
                              obtain rfl := (p135 (hb 4 (by decide))).symm
                              obtain rfl := (p136 (hb 5 (by decide))).symm
                              obtain rfl := (p137 (hb 6 (by decide))).symm
                              obtain rfl := (p138 (hb 7 (by decide))).symm
                              obtain rfl := (p139 (hb 8 (by decide))).symm
                              obtain rfl := (p140 (hb 9 (by decide))).symm
                              obtain rfl := (p141 (hb 10 (by decide))).symm
                              obtain rfl := (p142 (hb 11 (by decide))).symm
                              obtain rfl := (p143 (hb 12 (by decide))).symm
                              obtain rfl := (p144 (hb 13 (by decide))).symm
                              obtain rfl := (p145 (hb 14 (by decide))).symm
                              obtain rfl := (p146 (hb 15 (by decide))).symm
                              obtain rfl := (p147 (hb 16 (by decide))).symm
                              obtain rfl := (p148 (hb 17 (by decide))).symm
                              obtain rfl := (p149 (hb 18 (by decide))).symm
                              simp only [Act.put, List.setIfInBounds_toArray, List.set_cons_zero, List.set_cons_succ]
                              have HWB := Lib.hid (HW.out.next B)
                              have HNB := Lib.hid (Kd.Q_below HN.out B)
                              clear hb B HW HN WK hx1 hlo HZ
                              generalize w' = wb at HWB HNB ⊢
                              have HWd := Lib.hid (HWB.out.next (below_drew1 (Below.refl _ _)))
                              have HNd := Lib.hid (Kd.Q_below HNB.out (below_drew1 (Below.refl _ _)))
                              obtain ⟨W6, hrun, hW6, hbut6⟩ := HWd.out.put x (gt + 1)
                              have HRUN := Lib.hid hrun
                              have HW6 := Lib.hid hW6
                              have HN6 := Lib.hid (Q_but HNd.out HWd.out.stp hbut6)
                              clear hrun hW6 hbut6
                              go_upto_region 26 with fail
                              refine wp_region_inv (fun a0 w_0 b a' w' => ∃ x150 x151 x152 x153 x154 x155 x156 x157 x158 : Value, a' = (((((((((a0.put (some 150) x150).put (some 151) x151).put (some 152) x152).put (some 153) x153).put (some 154) x154).put (some 155) x155).put (some 156) x156).put (some 157) x157).put (some 158) x158) ∧ (b 9 = false → w' = wb.drew) ∧ (b 8 = true → b 7 = true) ∧ (b 9 = true → b 4 = true ∧ b 8 = true) ∧ (b 9 = true → w' = W6) ∧ (b 0 = true → x150 = .map (some gs)) ∧ (b 1 = true → x151 = .slice (some adn) nx.length cn) ∧ (b 2 = true → x152 = .int .i64 (j : Int)) ∧ (b 3 = true → x153 = .pointer (some (adn.add j))) ∧ (b 4 = true → x154 = .int .i64 x) ∧ (b 5 = true → x155 = .map (some gs)) ∧ (b 6 = true → x156 = .int .i64 t) ∧ (b 7 = true → x157 = .int .i64 gt) ∧ (b 8 = true → x158 = .int .i64 (gt + 1))) (by kernel_rfl) (by kernel_rfl) ?start ⟨?op0, ?op1, ?op2, ?op3, ?op4, ?op5, ?op6, ?op7, ?op8, ?op9, trivial⟩ ?done
                              case start => exact ⟨_, _, _, _, _, _, _, _, _, by simp only [Act.put, List.setIfInBounds_toArray, List.set_cons_zero, List.set_cons_succ]; rfl, fun _ => rfl, fun h => absurd h (by decide), fun h => absurd h (by decide), fun h => absurd h (by decide), fun h => absurd h (by decide), fun h => absurd h (by decide), fun h => absurd h (by decide), fun h => absurd h (by decide), fun h => absurd h (by decide), fun h => absurd h (by decide), fun h => absurd h (by decide), fun h => absurd h (by decide), fun h => absurd h (by decide)⟩
                              case op0 => as_aux_lemma =>
                                intro bb a_ w' h_
                                obtain ⟨x150, x151, x152, x153, x154, h_⟩ := h_
                                obtain ⟨x155, x156, x157, x158, h_⟩ := h_
                                obtain ⟨e_, h_⟩ := h_
                                subst e_
                                obtain ⟨A0, Q8, Q9, F0, p150, h_⟩ := h_
                                obtain ⟨p151, p152, p153, p154, p155, h_⟩ := h_
                                obtain ⟨p156, p157, h_⟩ := h_
                                have p158 := h_
                                clear h_
                                intro hb hd K hK
                                simp only [Act.put, List.setIfInBounds_toArray, List.set_cons_zero, List.set_cons_succ]
                                rw [if_pos (by rfl)]
                                go_simp
                                exact hK _ _ ⟨.map (some gs), x151, x152, x153, x154, x155, x156, x157, x158, by simp only [Act.put, List.setIfInBounds_toArray, List.set_cons_zero, List.set_cons_succ], fun h => A0 (by simpa [upb] using h), fun h => by have h4 := Q8 (by simpa [upb] using h); simp [upb, h4], fun h => by have h4 := Q9 (by simpa [upb] using h); simp [upb, h4.1, h4.2], fun h => F0 (by simpa [upb] using h), fun _ => rfl, up_ p151, up_ p152, up_ p153, up_ p154, up_ p155, up_ p156, up_ p157, up_ p158⟩
                              case op1 => as_aux_lemma =>
                                intro bb a_ w' h_
                                obtain ⟨x150, x151, x152, x153, x154, h_⟩ := h_
                                obtain ⟨x155, x156, x157, x158, h_⟩ := h_
                                obtain ⟨e_, h_⟩ := h_
                                subst e_
                                obtain ⟨A0, Q8, Q9, F0, p150, h_⟩ := h_
                                obtain ⟨p151, p152, p153, p154, p155, h_⟩ := h_
                                obtain ⟨p156, p157, h_⟩ := h_
                                have p158 := h_
                                clear h_
                                intro hb hd K hK
                                simp only [Act.put, List.setIfInBounds_toArray, List.set_cons_zero, List.set_cons_succ]
                                rw [if_pos (by rfl)]
                                go_simp
                                exact hK _ _ ⟨x150, .slice (some adn) nx.length cn, x152, x153, x154, x155, x156, x157, x158, by simp only [Act.put, List.setIfInBounds_toArray, List.set_cons_zero, List.set_cons_succ], fun h => A0 (by simpa [upb] using h), fun h => by have h4 := Q8 (by simpa [upb] using h); simp [upb, h4], fun h => by have h4 := Q9 (by simpa [upb] using h); simp [upb, h4.1, h4.2], fun h => F0 (by simpa [upb] using h), up_ p150, fun _ => rfl, up_ p152, up_ p153, up_ p154, up_ p155, up_ p156, up_ p157, up_ p158⟩
                              case op2 => as_aux_lemma =>
                                intro bb a_ w' h_
                                obtain ⟨x150, x151, x152, x153, x154, h_⟩ := h_
                                obtain ⟨x155, x156, x157, x158, h_⟩ := h_
                                obtain ⟨e_, h_⟩ := h_
                                subst e_
                                obtain ⟨A0, Q8, Q9, F0, p150, h_⟩ := h_
                                obtain ⟨p151, p152, p153, p154, p155, h_⟩ := h_
                                obtain ⟨p156, p157, h_⟩ := h_
                                have p158 := h_
                                clear h_
                                intro hb hd K hK
                                simp only [Act.put, List.setIfInBounds_toArray, List.set_cons_zero, List.set_cons_succ]
                                rw [if_pos (by rfl)]
                                go_simp
                                exact hK _ _ ⟨x150, x151, .int .i64 (j : Int), x153, x154, x155, x156, x157, x158, by simp only [Act.put, List.setIfInBounds_toArray, List.set_cons_zero, List.set_cons_succ], fun h => A0 (by simpa [upb] using h), fun h => by have h4 := Q8 (by simpa [upb] using h); simp [upb, h4], fun h => by have h4 := Q9 (by simpa [upb] using h); simp [upb, h4.1, h4.2], fun h => F0 (by simpa [upb] using h), up_ p150, up_ p151, fun _ => rfl, up_ p153, up_ p154, up_ p155, up_ p156, up_ p157, up_ p158⟩
                              case op3 => as_aux_lemma =>
                                intro bb a_ w' h_
                                obtain ⟨x150, x151, x152, x153, x154, h_⟩ := h_
                                obtain ⟨x155, x156, x157, x158, h_⟩ := h_
                                obtain ⟨e_, h_⟩ := h_
                                subst e_
                                obtain ⟨A0, Q8, Q9, F0, p150, h_⟩ := h_
                                obtain ⟨p151, p152, p153, p154, p155, h_⟩ := h_
                                obtain ⟨p156, p157, h_⟩ := h_
                                have p158 := h_
                                clear h_
                                intro hb hd K hK
                                simp only [Act.put, List.setIfInBounds_toArray, List.set_cons_zero, List.set_cons_succ]
                                obtain rfl := (p151 (hd 1 (by decide))).symm
                                obtain rfl := (p152 (hd 2 (by decide))).symm
                                rw [if_pos (by rfl)]
                                go_simp
                                exact hK _ _ ⟨x150, .slice (some adn) nx.length cn, .int .i64 (j : Int), .pointer (some (adn.add j)), x154, x155, x156, x157, x158, by simp only [Act.put, List.setIfInBounds_toArray, List.set_cons_zero, List.set_cons_succ], fun h => A0 (by simpa [upb] using h), fun h => by have h4 := Q8 (by simpa [upb] using h); simp [upb, h4], fun h => by have h4 := Q9 (by simpa [upb] using h); simp [upb, h4.1, h4.2], fun h => F0 (by simpa [upb] using h), up_ p150, fun _ => rfl, fun _ => rfl, fun _ => rfl, up_ p154, up_ p155, up_ p156, up_ p157, up_ p158⟩
                              case op4 => as_aux_lemma =>
                                intro bb a_ w' h_
                                obtain ⟨x150, x151, x152, x153, x154, h_⟩ := h_
                                obtain ⟨x155, x156, x157, x158, h_⟩ := h_
                                obtain ⟨e_, h_⟩ := h_
                                subst e_
                                obtain ⟨A0, Q8, Q9, F0, p150, h_⟩ := h_
                                obtain ⟨p151, p152, p153, p154, p155, h_⟩ := h_
                                obtain ⟨p156, p157, h_⟩ := h_
                                have p158 := h_
                                clear h_
                                intro hb hd K hK
                                simp only [Act.put, List.setIfInBounds_toArray, List.set_cons_zero, List.set_cons_succ]
                                obtain rfl := (p153 (hd 3 (by decide))).symm
                                rw [if_pos (by rfl)]
                                have h9 : bb 9 = false := by cases h : bb 9 with | false => rfl | true => exact absurd ((Q9 h).1) (by rw [hb]; decide)
                                obtain rfl := A0 h9
                                have hx0 := nx_at HNd.out hjn HX.out
                                go_simp
                                exact hK _ _ ⟨x150, x151, x152, .pointer (some (adn.add j)), .int .i64 x, x155, x156, x157, x158, by simp only [Act.put, List.setIfInBounds_toArray, List.set_cons_zero, List.set_cons_succ], fun h => A0 (by simpa [upb] using h), fun h => by have h4 := Q8 (by simpa [upb] using h); simp [upb, h4], fun h => by have h4 := Q9 (by simpa [upb] using h); simp [upb, h4.1, h4.2], fun h => F0 (by simpa [upb] using h), up_ p150, up_ p151, up_ p152, fun _ => rfl, fun _ => rfl, up_ p155, up_ p156, up_ p157, up_ p158⟩
                              case op5 => as_aux_lemma =>
                                intro bb a_ w' h_
                                obtain ⟨x150, x151, x152, x153, x154, h_⟩ := h_
                                obtain ⟨x155, x156, x157, x158, h_⟩ := h_
                                obtain ⟨e_, h_⟩ := h_
                                subst e_
                                obtain ⟨A0, Q8, Q9, F0, p150, h_⟩ := h_
                                obtain ⟨p151, p152, p153, p154, p155, h_⟩ := h_
                                obtain ⟨p156, p157, h_⟩ := h_
                                have p158 := h_
                                clear h_
                                intro hb hd K hK
                                simp only [Act.put, List.setIfInBounds_toArray, List.set_cons_zero, List.set_cons_succ]
                                rw [if_pos (by rfl)]
                                go_simp
                                exact hK _ _ ⟨x150, x151, x152, x153, x154, .map (some gs), x156, x157, x158, by simp only [Act.put, List.setIfInBounds_toArray, List.set_cons_zero, List.set_cons_succ], fun h => A0 (by simpa [upb] using h), fun h => by have h4 := Q8 (by simpa [upb] using h); simp [upb, h4], fun h => by have h4 := Q9 (by simpa [upb] using h); simp [upb, h4.1, h4.2], fun h => F0 (by simpa [upb] using h), up_ p150, up_ p151, up_ p152, up_ p153, up_ p154, fun _ => rfl, up_ p156, up_ p157, up_ p158⟩
                              case op6 => as_aux_lemma =>
                                intro bb a_ w' h_
                                obtain ⟨x150, x151, x152, x153, x154, h_⟩ := h_
                                obtain ⟨x155, x156, x157, x158, h_⟩ := h_
                                obtain ⟨e_, h_⟩ := h_
                                subst e_
                                obtain ⟨A0, Q8, Q9, F0, p150, h_⟩ := h_
                                obtain ⟨p151, p152, p153, p154, p155, h_⟩ := h_
                                obtain ⟨p156, p157, h_⟩ := h_
                                have p158 := h_
                                clear h_
                                intro hb hd K hK
                                simp only [Act.put, List.setIfInBounds_toArray, List.set_cons_zero, List.set_cons_succ]
                                rw [if_pos (by rfl)]
                                go_simp
                                exact hK _ _ ⟨x150, x151, x152, x153, x154, x155, .int .i64 t, x157, x158, by simp only [Act.put, List.setIfInBounds_toArray, List.set_cons_zero, List.set_cons_succ], fun h => A0 (by simpa [upb] using h), fun h => by have h4 := Q8 (by simpa [upb] using h); simp [upb, h4], fun h => by have h4 := Q9 (by simpa [upb] using h); simp [upb, h4.1, h4.2], fun h => F0 (by simpa [upb] using h), up_ p150, up_ p151, up_ p152, up_ p153, up_ p154, up_ p155, fun _ => rfl, up_ p157, up_ p158⟩
                              case op7 => as_aux_lemma =>
                                intro bb a_ w' h_
                                obtain ⟨x150, x151, x152, x153, x154, h_⟩ := h_
                                obtain ⟨x155, x156, x157, x158, h_⟩ := h_
                                obtain ⟨e_, h_⟩ := h_
                                subst e_
                                obtain ⟨A0, Q8, Q9, F0, p150, h_⟩ := h_
                                obtain ⟨p151, p152, p153, p154, p155, h_⟩ := h_
                                obtain ⟨p156, p157, h_⟩ := h_
                                have p158 := h_
                                clear h_
                                intro hb hd K hK
                                simp only [Act.put, List.setIfInBounds_toArray, List.set_cons_zero, List.set_cons_succ]
                                obtain rfl := (p155 (hd 5 (by decide))).symm
                                obtain rfl := (p156 (hd 6 (by decide))).symm
                                rw [if_pos (by rfl)]
                                have h9 : bb 9 = false := by cases h : bb 9 with | false => rfl | true => exact absurd (Q8 (Q9 h).2) (by rw [hb]; decide)
                                obtain rfl := A0 h9
                                have hl := HWd.out.look t HGT.out
                                go_simp
                                exact hK _ _ ⟨x150, x151, x152, x153, x154, .map (some gs), .int .i64 t, .int .i64 gt, x158, by simp only [Act.put, List.setIfInBounds_toArray, List.set_cons_zero, List.set_cons_succ], fun h => A0 (by simpa [upb] using h), fun h => by have h4 := Q8 (by simpa [upb] using h); simp [upb, h4], fun h => by have h4 := Q9 (by simpa [upb] using h); simp [upb, h4.1, h4.2], fun h => F0 (by simpa [upb] using h), up_ p150, up_ p151, up_ p152, up_ p153, up_ p154, fun _ => rfl, fun _ => rfl, fun _ => rfl, up_ p158⟩
                              case op8 => as_aux_lemma =>
                                intro bb a_ w' h_
                                obtain ⟨x150, x151, x152, x153, x154, h_⟩ := h_
                                obtain ⟨x155, x156, x157, x158, h_⟩ := h_
                                obtain ⟨e_, h_⟩ := h_
                                subst e_
                                obtain ⟨A0, Q8, Q9, F0, p150, h_⟩ := h_
                                obtain ⟨p151, p152, p153, p154, p155, h_⟩ := h_
                                obtain ⟨p156, p157, h_⟩ := h_
                                have p158 := h_
                                clear h_
                                intro hb hd K hK
                                simp only [Act.put, List.setIfInBounds_toArray, List.set_cons_zero, List.set_cons_succ]
                                obtain rfl := (p157 (hd 7 (by decide))).symm
                                rw [if_pos (by rfl)]
                                have hw1 : IntKind.i64.wrap (gt + 1) = gt + 1 := IntWalk.i64_in _ (by omega)
                                go_simp
                                exact hK _ _ ⟨x150, x151, x152, x153, x154, x155, x156, .int .i64 gt, .int .i64 (gt + 1), by simp only [Act.put, List.setIfInBounds_toArray, List.set_cons_zero, List.set_cons_succ], fun h => A0 (by simpa [upb] using h), fun _ => by have := hd 7 (by decide); simp [upb, this], fun h => by have h4 := Q9 (by simpa [upb] using h); simp [upb, h4.1, h4.2], fun h => F0 (by simpa [upb] using h), up_ p150, up_ p151, up_ p152, up_ p153, up_ p154, up_ p155, up_ p156, fun _ => rfl, fun _ => rfl⟩
                              case op9 => as_aux_lemma =>
                                intro bb a_ w' h_
                                obtain ⟨x150, x151, x152, x153, x154, h_⟩ := h_
                                obtain ⟨x155, x156, x157, x158, h_⟩ := h_
                                obtain ⟨e_, h_⟩ := h_
                                subst e_
                                obtain ⟨A0, Q8, Q9, F0, p150, h_⟩ := h_
                                obtain ⟨p151, p152, p153, p154, p155, h_⟩ := h_
                                obtain ⟨p156, p157, h_⟩ := h_
                                have p158 := h_
                                clear h_
                                intro hb hd K hK
                                simp only [Act.put, List.setIfInBounds_toArray, List.set_cons_zero, List.set_cons_succ]
                                obtain rfl := (p150 (hd 0 (by decide))).symm
                                obtain rfl := (p154 (hd 4 (by decide))).symm
                                obtain rfl := (p158 (hd 8 (by decide))).symm
                                rw [if_pos (by rfl)]
                                obtain rfl := A0 hb
                                have hrun := HRUN.out
                                go_simp
                                exact hK _ _ ⟨.map (some gs), x151, x152, x153, .int .i64 x, x155, x156, x157, .int .i64 (gt + 1), by simp only [Act.put, List.setIfInBounds_toArray, List.set_cons_zero, List.set_cons_succ], fun h => absurd h (by simp [upb]), fun h => by have h4 := Q8 (by simpa [upb] using h); simp [upb, h4], fun _ => ⟨by have := hd 4 (by decide); simp [upb, this], by have := hd 8 (by decide); simp [upb, this]⟩, fun _ => rfl, fun _ => rfl, up_ p151, up_ p152, up_ p153, fun _ => rfl, up_ p155, up_ p156, up_ p157, fun _ => rfl⟩
                              case done => as_aux_lemma =>
                                intro bb a_ w' hb h_
                                obtain ⟨x150, x151, x152, x153, x154, h_⟩ := h_
                                obtain ⟨x155, x156, x157, x158, h_⟩ := h_
                                obtain ⟨e_, h_⟩ := h_
                                subst e_
                                obtain ⟨A0, Q8, Q9, F0, p150, h_⟩ := h_
                                obtain ⟨p151, p152, p153, p154, p155, h_⟩ := h_
                                obtain ⟨p156, p157, h_⟩ := h_
                                have p158 := h_
                                clear h_
                                obtain rfl := (p150 (hb 0 (by decide))).symm
                                obtain rfl := (p151 (hb 1 (by decide))).symm
                                obtain rfl := (p152 (hb 2 (by decide))).symm
                                obtain rfl := (p153 (hb 3 (by decide))).symm
                                obtain rfl := (p154 (hb 4 (by decide))).symm
                                obtain rfl := (p155 (hb 5 (by decide))).symm
                                obtain rfl := (p156 (hb 6 (by decide))).symm
                                obtain rfl := (p157 (hb 7 (by decide))).symm
                                obtain rfl := (p158 (hb 8 (by decide))).symm
                                simp only [Act.put, List.setIfInBounds_toArray, List.set_cons_zero, List.set_cons_succ]
                                obtain rfl := F0 (hb 9 (by decide))
                                clear A0 Q8 Q9 F0 hb HRUN HWd HNd HWB HNB
                                have hx6 := nx_at HN6.out hjn HX.out
                                go_wp2_with (first
                                  | (at_builtin; refine Kd.Q_append (Kd.int .i64) (w0 := w) w.heap.size rfl (.tmp 159) (.tmp 164) 22 3 (.int .i64 0) 8 rfl Try.underlying22 info3 rfl (by decide) (by omega) _ wl x [.int .i64 x] (fun _ => True) (fun _ => False) rfl rfl ?aP (fun _ hk => hk.elim) ?aF ?aO ?aB ?aS ?aL ?_; (case aP => exact rfl); (case aB => exact HW6.out.bel); (case aF => exact (fun _ _ => trivial)); (case aO => exact HW6.out.own); (case aS => exact HW6.out.bel.size); (case aL => omega); intro v9 w9 hq hb hg hat; have HW9 := Lib.hid (HW6.out.app hq hb hg hat); have HN9 := Lib.hid (Kd.Q_after HN6.out hg hat); clear hq hb hg hat hx6 HW6 HN6)
                                  | fail)
                                go_roundg k2
                                case measure => omega
                                case rel => exact ⟨j + 1, _, _, by push_cast; rfl, by omega, by omega, HE2, HW9, HN9⟩
        case rest =>
          clear HW0 HBF
          obtain ⟨S, work, vk, rfl, rfl, HW⟩ := hcut
          by_cases hv0 : v0 < 0
          · have hb0 : decide (v0 < 0) = true := decide_eq_true hv0
            obtain ⟨e1, e2⟩ := HNEG.out hv0
            try simp only at e1 e2
            subst e1
            have hl0 : ((r1.length : Int) == 0) = true := by rw [e2]; rfl
            clear e2
            go_wp2_with (first | (refine (WK.out _).mono ?_; rintro e w7 ⟨rfl, hb⟩; have HB7 := Lib.hid (below_then HW.out.bel HW.out.bel.size hb); clear hb WK) | fail)
            go_ret
            exact ⟨rfl, HB7.out⟩
          · clear HNEG
            have hb0 : decide (v0 < 0) = false := decide_eq_false (by omega)
            obtain ⟨e1, e2, tt, hfw, htz⟩ := HPOS.out (by omega)
            try simp only at e1 e2 hfw
            subst e1
            have hl0 : ((r1.length : Int) != v0) = false := by rw [e2]; simp
            have HFW := Lib.hid hfw
            have HTZ := Lib.hid htz
            have HOF := Lib.hid hof
            clear e2 hfw htz
            go_wp2_with (fail)
            go_loopg [29, 30] (r1.length + 1) (fun kq v29 v30 w' => ∃ (m : Nat) (u : Int), v29 = .int .i64 u ∧ v30 = .int .i64 (m : Int) ∧ m + kq = r1.length + 1 ∧ m ≤ r1.length ∧ RowKit.Hid (Fwd a bh s (fun x => decide (x ∈ busy)) u (r1.drop m) tt) ∧ RowKit.Hid (onB s u = true) ∧ RowKit.Hid (Wk w w' kb k19 gm gs a bh s (fm busy i) S (.slice A5 r1.length n5) r1 vk work))
            case atStart => exact ⟨0, from_, rfl, rfl, by omega, by omega, HFW, HOF, HW⟩
            case round =>
              clear HW HFW HOF
              obtain ⟨m, u, rfl, rfl, hmk, hml, HFW, HOU, HW⟩ := hrel
              cases gk with
              | zero => omega
              | succ k2 =>
                by_cases hmn : m < r1.length
                · have dm : decide ((m : Int) < (r1.length : Int)) = true := decide_eq_true (by omega)
                  obtain ⟨x, hx⟩ : ∃ x, r1.getD m 0 = x := ⟨_, rfl⟩
                  have hdr : r1.drop m = x :: r1.drop (m + 1) := by
                    rw [List.drop_eq_getElem_cons hmn, ← hx, List.getD_eq_getElem?_getD, List.getElem?_eq_getElem hmn]; rfl
                  have hfw := HFW.out
                  rw [hdr] at hfw
                  obtain ⟨hxn, hfr, hfw2⟩ := hfw
                  have HX := Lib.hid hx
                  have HFW2 := Lib.hid hfw2
                  have HOX := Lib.hid (next_at hO HOU.out hxn).1
                  have hfar := far_g hO u x 5 (by omega)
                  rw [next_far hO HOU.out hxn] at hfar
                  have FC := Lib.hid (fun W => grid_Map_Far.calls 5 a bh s u x 1 W hfar)
                  have WC := Lib.hid (fun W => grid_Map_Walk.calls a bh s x true W hfr.1)
                  have hz : (fm busy i x).getD (.bool false) = .bool false := by
                    rw [HFULL.out x]
                    exact congrArg Value.bool hfr.2
                  have HZ := Lib.hid hz
                  obtain ⟨ad5, rfl⟩ := nx_some HW.out.res (by omega)
                  clear hdr hx hfar hfr hfw2 hxn hz HFW
                  go_upto_region 36 with fail
                  refine wp_region_inv (fun a0 w_0 b a' w' => ∃ x193 x194 x195 x196 x197 x198 x199 x200 x201 x202 x203 x204 x205 x206 x207 x208 x209 x210 x211 x212 x213 x214 x215 x216 x217 : Value, a' = (((((((((((((((((((((((((a0.put (some 193) x193).put (some 194) x194).put (some 195) x195).put (some 196) x196).put (some 197) x197).put (some 198) x198).put (some 199) x199).put (some 200) x200).put (some 201) x201).put (some 202) x202).put (some 203) x203).put (some 204) x204).put (some 205) x205).put (some 206) x206).put (some 207) x207).put (some 208) x208).put (some 209) x209).put (some 210) x210).put (some 211) x211).put (some 212) x212).put (some 213) x213).put (some 214) x214).put (some 215) x215).put (some 216) x216).put (some 217) x217) ∧ Below wr.heap.size wr w' ∧ (b 0 = true → x193 = .agg #[.int .i64 a, .int .i64 bh, .string s]) ∧ (b 1 = true → x194 = .int .i64 u) ∧ (b 2 = true → x195 = .slice (some ad5) r1.length n5) ∧ (b 3 = true → x196 = .int .i64 (m : Int)) ∧ (b 4 = true → x197 = .pointer (some (ad5.add m))) ∧ (b 5 = true → x198 = .int .i64 x) ∧ (b 6 = true → x199 = .int .i64 1) ∧ (b 7 = true → x200 = .bool false) ∧ (b 8 = true → x201 = .bool false) ∧ (b 9 = true → x202 = .agg #[.int .i64 a, .int .i64 bh, .string s]) ∧ (b 10 = true → x203 = .slice (some ad5) r1.length n5) ∧ (b 11 = true → x204 = .int .i64 (m : Int)) ∧ (b 12 = true → x205 = .pointer (some (ad5.add m))) ∧ (b 13 = true → x206 = .int .i64 x) ∧ (b 14 = true → x207 = .bool true) ∧ (b 15 = true → x208 = .bool false) ∧ (b 16 = true → x209 = .bool false) ∧ (b 17 = true → x210 = .bool false) ∧ (b 18 = true → x211 = .map (some gm)) ∧ (b 19 = true → x212 = .slice (some ad5) r1.length n5) ∧ (b 20 = true → x213 = .int .i64 (m : Int)) ∧ (b 21 = true → x214 = .pointer (some (ad5.add m))) ∧ (b 22 = true → x215 = .int .i64 x) ∧ (b 23 = true → x216 = .bool false) ∧ (b 24 = true → x217 = .bool false)) (by kernel_rfl) (by kernel_rfl) ?start ⟨?op0, ?op1, ?op2, ?op3, ?op4, ?op5, ?op6, ?op7, ?op8, ?op9, ?op10, ?op11, ?op12, ?op13, ?op14, ?op15, ?op16, ?op17, ?op18, ?op19, ?op20, ?op21, ?op22, ?op23, ?op24, trivial⟩ ?done
                  case start => exact ⟨_, _, _, _, _, _, _, _, _, _, _, _, _, _, _, _, _, _, _, _, _, _, _, _, _, by simp only [Act.put, List.setIfInBounds_toArray, List.set_cons_zero, List.set_cons_succ]; rfl, below_drew1 (Below.refl _ _), fun h => absurd h (by decide), fun h => absurd h (by decide), fun h => absurd h (by decide), fun h => absurd h (by decide), fun h => absurd h (by decide), fun h => absurd h (by decide), fun h => absurd h (by decide), fun h => absurd h (by decide), fun h => absurd h (by decide), fun h => absurd h (by decide), fun h => absurd h (by decide), fun h => absurd h (by decide), fun h => absurd h (by decide), fun h => absurd h (by decide), fun h => absurd h (by decide), fun h => absurd h (by decide), fun h => absurd h (by decide), fun h => absurd h (by decide), fun h => absurd h (by decide), fun h => absurd h (by decide), fun h => absurd h (by decide), fun h => absurd h (by decide), fun h => absurd h (by decide), fun h => absurd h (by decide), fun h => absurd h (by decide)⟩
                  case op0 => as_aux_lemma =>
                    intro bb a_ w' h_
                    obtain ⟨x193, x194, x195, x196, x197, h_⟩ := h_
                    obtain ⟨x198, x199, x200, x201, x202, h_⟩ := h_
                    obtain ⟨x203, x204, x205, x206, x207, h_⟩ := h_
                    obtain ⟨x208, x209, x210, x211, x212, h_⟩ := h_
                    obtain ⟨x213, x214, x215, x216, x217, h_⟩ := h_
                    obtain ⟨e_, h_⟩ := h_
                    subst e_
                    obtain ⟨B, p193, p194, p195, p196, h_⟩ := h_
                    obtain ⟨p197, p198, p199, p200, p201, h_⟩ := h_
                    obtain ⟨p202, p203, p204, p205, p206, h_⟩ := h_
                    obtain ⟨p207, p208, p209, p210, p211, h_⟩ := h_
                    obtain ⟨p212, p213, p214, p215, p216, h_⟩ := h_
                    have p217 := h_
                    clear h_
                    intro hb hd K hK
                    simp only [Act.put, List.setIfInBounds_toArray, List.set_cons_zero, List.set_cons_succ]
                    rw [if_pos (by rfl)]
                    have hn := HW.out.next B
                    obtain ⟨c0, c1', c2⟩ := cells3 hn.blk
                    go_simp
                    exact hK _ _ ⟨.agg #[.int .i64 a, .int .i64 bh, .string s], x194, x195, x196, x197, x198, x199, x200, x201, x202, x203, x204, x205, x206, x207, x208, x209, x210, x211, x212, x213, x214, x215, x216, x217, by simp only [Act.put, List.setIfInBounds_toArray, List.set_cons_zero, List.set_cons_succ], B, fun _ => rfl, up_ p194, up_ p195, up_ p196, up_ p197, up_ p198, up_ p199, up_ p200, up_ p201, up_ p202, up_ p203, up_ p204, up_ p205, up_ p206, up_ p207, up_ p208, up_ p209, up_ p210, up_ p211, up_ p212, up_ p213, up_ p214, up_ p215, up_ p216, up_ p217⟩
                  case op1 => as_aux_lemma =>
                    intro bb a_ w' h_
                    obtain ⟨x193, x194, x195, x196, x197, h_⟩ := h_
                    obtain ⟨x198, x199, x200, x201, x202, h_⟩ := h_
                    obtain ⟨x203, x204, x205, x206, x207, h_⟩ := h_
                    obtain ⟨x208, x209, x210, x211, x212, h_⟩ := h_
                    obtain ⟨x213, x214, x215, x216, x217, h_⟩ := h_
                    obtain ⟨e_, h_⟩ := h_
                    subst e_
                    obtain ⟨B, p193, p194, p195, p196, h_⟩ := h_
                    obtain ⟨p197, p198, p199, p200, p201, h_⟩ := h_
                    obtain ⟨p202, p203, p204, p205, p206, h_⟩ := h_
                    obtain ⟨p207, p208, p209, p210, p211, h_⟩ := h_
                    obtain ⟨p212, p213, p214, p215, p216, h_⟩ := h_
                    have p217 := h_
                    clear h_
                    intro hb hd K hK
                    simp only [Act.put, List.setIfInBounds_toArray, List.set_cons_zero, List.set_cons_succ]
                    rw [if_pos (by rfl)]
                    go_simp
                    exact hK _ _ ⟨x193, .int .i64 u, x195, x196, x197, x198, x199, x200, x201, x202, x203, x204, x205, x206, x207, x208, x209, x210, x211, x212, x213, x214, x215, x216, x217, by simp only [Act.put, List.setIfInBounds_toArray, List.set_cons_zero, List.set_cons_succ], B, up_ p193, fun _ => rfl, up_ p195, up_ p196, up_ p197, up_ p198, up_ p199, up_ p200, up_ p201, up_ p202, up_ p203, up_ p204, up_ p205, up_ p206, up_ p207, up_ p208, up_ p209, up_ p210, up_ p211, up_ p212, up_ p213, up_ p214, up_ p215, up_ p216, up_ p217⟩
                  case op2 => as_aux_lemma =>
                    intro bb a_ w' h_
                    obtain ⟨x193, x194, x195, x196, x197, h_⟩ := h_
                    obtain ⟨x198, x199, x200, x201, x202, h_⟩ := h_
                    obtain ⟨x203, x204, x205, x206, x207, h_⟩ := h_
                    obtain ⟨x208, x209, x210, x211, x212, h_⟩ := h_
                    obtain ⟨x213, x214, x215, x216, x217, h_⟩ := h_
                    obtain ⟨e_, h_⟩ := h_
                    subst e_
                    obtain ⟨B, p193, p194, p195, p196, h_⟩ := h_
                    obtain ⟨p197, p198, p199, p200, p201, h_⟩ := h_
                    obtain ⟨p202, p203, p204, p205, p206, h_⟩ := h_
                    obtain ⟨p207, p208, p209, p210, p211, h_⟩ := h_
                    obtain ⟨p212, p213, p214, p215, p216, h_⟩ := h_
                    have p217 := h_
                    clear h_
                    intro hb hd K hK
                    simp only [Act.put, List.setIfInBounds_toArray, List.set_cons_zero, List.set_cons_succ]
                    rw [if_pos (by rfl)]
                    go_simp
                    exact hK _ _ ⟨x193, x194, .slice (some ad5) r1.length n5, x196, x197, x198, x199, x200, x201, x202, x203, x204, x205, x206, x207, x208, x209, x210, x211, x212, x213, x214, x215, x216, x217, by simp only [Act.put, List.setIfInBounds_toArray, List.set_cons_zero, List.set_cons_succ], B, up_ p193, up_ p194, fun _ => rfl, up_ p196, up_ p197, up_ p198, up_ p199, up_ p200, up_ p201, up_ p202, up_ p203, up_ p204, up_ p205, up_ p206, up_ p207, up_ p208, up_ p209, up_ p210, up_ p211, up_ p212, up_ p213, up_ p214, up_ p215, up_ p216, up_ p217⟩
                  case op3 => as_aux_lemma =>
                    intro bb a_ w' h_
                    obtain ⟨x193, x194, x195, x196, x197, h_⟩ := h_
                    obtain ⟨x198, x199, x200, x201, x202, h_⟩ := h_
                    obtain ⟨x203, x204, x205, x206, x207, h_⟩ := h_
                    obtain ⟨x208, x209, x210, x211, x212, h_⟩ := h_
                    obtain ⟨x213, x214, x215, x216, x217, h_⟩ := h_
                    obtain ⟨e_, h_⟩ := h_
                    subst e_
                    obtain ⟨B, p193, p194, p195, p196, h_⟩ := h_
                    obtain ⟨p197, p198, p199, p200, p201, h_⟩ := h_
                    obtain ⟨p202, p203, p204, p205, p206, h_⟩ := h_
                    obtain ⟨p207, p208, p209, p210, p211, h_⟩ := h_
                    obtain ⟨p212, p213, p214, p215, p216, h_⟩ := h_
                    have p217 := h_
                    clear h_
                    intro hb hd K hK
                    simp only [Act.put, List.setIfInBounds_toArray, List.set_cons_zero, List.set_cons_succ]
                    rw [if_pos (by rfl)]
                    go_simp
                    exact hK _ _ ⟨x193, x194, x195, .int .i64 (m : Int), x197, x198, x199, x200, x201, x202, x203, x204, x205, x206, x207, x208, x209, x210, x211, x212, x213, x214, x215, x216, x217, by simp only [Act.put, List.setIfInBounds_toArray, List.set_cons_zero, List.set_cons_succ], B, up_ p193, up_ p194, up_ p195, fun _ => rfl, up_ p197, up_ p198, up_ p199, up_ p200, up_ p201, up_ p202, up_ p203, up_ p204, up_ p205, up_ p206, up_ p207, up_ p208, up_ p209, up_ p210, up_ p211, up_ p212, up_ p213, up_ p214, up_ p215, up_ p216, up_ p217⟩
                  case op4 => as_aux_lemma =>
                    intro bb a_ w' h_
                    obtain ⟨x193, x194, x195, x196, x197, h_⟩ := h_
                    obtain ⟨x198, x199, x200, x201, x202, h_⟩ := h_
                    obtain ⟨x203, x204, x205, x206, x207, h_⟩ := h_
                    obtain ⟨x208, x209, x210, x211, x212, h_⟩ := h_
                    obtain ⟨x213, x214, x215, x216, x217, h_⟩ := h_
                    obtain ⟨e_, h_⟩ := h_
                    subst e_
                    obtain ⟨B, p193, p194, p195, p196, h_⟩ := h_
                    obtain ⟨p197, p198, p199, p200, p201, h_⟩ := h_
                    obtain ⟨p202, p203, p204, p205, p206, h_⟩ := h_
                    obtain ⟨p207, p208, p209, p210, p211, h_⟩ := h_
                    obtain ⟨p212, p213, p214, p215, p216, h_⟩ := h_
                    have p217 := h_
                    clear h_
                    intro hb hd K hK
                    simp only [Act.put, List.setIfInBounds_toArray, List.set_cons_zero, List.set_cons_succ]
                    obtain rfl := (p195 (hd 2 (by decide))).symm
                    obtain rfl := (p196 (hd 3 (by decide))).symm
                    rw [if_pos (by rfl)]
                    go_simp
                    exact hK _ _ ⟨x193, x194, .slice (some ad5) r1.length n5, .int .i64 (m : Int), .pointer (some (ad5.add m)), x198, x199, x200, x201, x202, x203, x204, x205, x206, x207, x208, x209, x210, x211, x212, x213, x214, x215, x216, x217, by simp only [Act.put, List.setIfInBounds_toArray, List.set_cons_zero, List.set_cons_succ], B, up_ p193, up_ p194, fun _ => rfl, fun _ => rfl, fun _ => rfl, up_ p198, up_ p199, up_ p200, up_ p201, up_ p202, up_ p203, up_ p204, up_ p205, up_ p206, up_ p207, up_ p208, up_ p209, up_ p210, up_ p211, up_ p212, up_ p213, up_ p214, up_ p215, up_ p216, up_ p217⟩
                  case op5 => as_aux_lemma =>
                    intro bb a_ w' h_
                    obtain ⟨x193, x194, x195, x196, x197, h_⟩ := h_
                    obtain ⟨x198, x199, x200, x201, x202, h_⟩ := h_
                    obtain ⟨x203, x204, x205, x206, x207, h_⟩ := h_
                    obtain ⟨x208, x209, x210, x211, x212, h_⟩ := h_
                    obtain ⟨x213, x214, x215, x216, x217, h_⟩ := h_
                    obtain ⟨e_, h_⟩ := h_
                    subst e_
                    obtain ⟨B, p193, p194, p195, p196, h_⟩ := h_
                    obtain ⟨p197, p198, p199, p200, p201, h_⟩ := h_
                    obtain ⟨p202, p203, p204, p205, p206, h_⟩ := h_
                    obtain ⟨p207, p208, p209, p210, p211, h_⟩ := h_
                    obtain ⟨p212, p213, p214, p215, p216, h_⟩ := h_
                    have p217 := h_
                    clear h_
                    intro hb hd K hK
                    simp only [Act.put, List.setIfInBounds_toArray, List.set_cons_zero, List.set_cons_succ]
                    obtain rfl := (p197 (hd 4 (by decide))).symm
                    rw [if_pos (by rfl)]
                    have hx0 := nx_at (Kd.Q_below HW.out.res B) hmn HX.out
                    go_simp
                    exact hK _ _ ⟨x193, x194, x195, x196, .pointer (some (ad5.add m)), .int .i64 x, x199, x200, x201, x202, x203, x204, x205, x206, x207, x208, x209, x210, x211, x212, x213, x214, x215, x216, x217, by simp only [Act.put, List.setIfInBounds_toArray, List.set_cons_zero, List.set_cons_succ], B, up_ p193, up_ p194, up_ p195, up_ p196, fun _ => rfl, fun _ => rfl, up_ p199, up_ p200, up_ p201, up_ p202, up_ p203, up_ p204, up_ p205, up_ p206, up_ p207, up_ p208, up_ p209, up_ p210, up_ p211, up_ p212, up_ p213, up_ p214, up_ p215, up_ p216, up_ p217⟩
                  case op6 => as_aux_lemma =>
                    intro bb a_ w' h_
                    obtain ⟨x193, x194, x195, x196, x197, h_⟩ := h_
                    obtain ⟨x198, x199, x200, x201, x202, h_⟩ := h_
                    obtain ⟨x203, x204, x205, x206, x207, h_⟩ := h_
                    obtain ⟨x208, x209, x210, x211, x212, h_⟩ := h_
                    obtain ⟨x213, x214, x215, x216, x217, h_⟩ := h_
                    obtain ⟨e_, h_⟩ := h_
                    subst e_
                    obtain ⟨B, p193, p194, p195, p196, h_⟩ := h_
                    obtain ⟨p197, p198, p199, p200, p201, h_⟩ := h_
                    obtain ⟨p202, p203, p204, p205, p206, h_⟩ := h_
                    obtain ⟨p207, p208, p209, p210, p211, h_⟩ := h_
                    obtain ⟨p212, p213, p214, p215, p216, h_⟩ := h_
                    have p217 := h_
                    clear h_
                    intro hb hd K hK
                    simp only [Act.put, List.setIfInBounds_toArray, List.set_cons_zero, List.set_cons_succ]
                    obtain rfl := (p193 (hd 0 (by decide))).symm
                    obtain rfl := (p194 (hd 1 (by decide))).symm
                    obtain rfl := (p198 (hd 5 (by decide))).symm
                    rw [if_pos (by rfl)]
                    go_simp
                    refine (FC.out _).mono ?_
                    rintro e w2 ⟨rfl, hb2⟩
                    exact hK _ _ ⟨.agg #[.int .i64 a, .int .i64 bh, .string s], .int .i64 u, x195, x196, x197, .int .i64 x, .int .i64 1, x200, x201, x202, x203, x204, x205, x206, x207, x208, x209, x210, x211, x212, x213, x214, x215, x216, x217, by simp only [Act.put, List.setIfInBounds_toArray, List.set_cons_zero, List.set_cons_succ], below_then B B.size hb2, fun _ => rfl, fun _ => rfl, up_ p195, up_ p196, up_ p197, fun _ => rfl, fun _ => rfl, up_ p200, up_ p201, up_ p202, up_ p203, up_ p204, up_ p205, up_ p206, up_ p207, up_ p208, up_ p209, up_ p210, up_ p211, up_ p212, up_ p213, up_ p214, up_ p215, up_ p216, up_ p217⟩
                  case op7 => as_aux_lemma =>
                    intro bb a_ w' h_
                    obtain ⟨x193, x194, x195, x196, x197, h_⟩ := h_
                    obtain ⟨x198, x199, x200, x201, x202, h_⟩ := h_
                    obtain ⟨x203, x204, x205, x206, x207, h_⟩ := h_
                    obtain ⟨x208, x209, x210, x211, x212, h_⟩ := h_
                    obtain ⟨x213, x214, x215, x216, x217, h_⟩ := h_
                    obtain ⟨e_, h_⟩ := h_
                    subst e_
                    obtain ⟨B, p193, p194, p195, p196, h_⟩ := h_
                    obtain ⟨p197, p198, p199, p200, p201, h_⟩ := h_
                    obtain ⟨p202, p203, p204, p205, p206, h_⟩ := h_
                    obtain ⟨p207, p208, p209, p210, p211, h_⟩ := h_
                    obtain ⟨p212, p213, p214, p215, p216, h_⟩ := h_
                    have p217 := h_
                    clear h_
                    intro hb hd K hK
                    simp only [Act.put, List.setIfInBounds_toArray, List.set_cons_zero, List.set_cons_succ]
                    obtain rfl := (p199 (hd 6 (by decide))).symm
                    rw [if_pos (by rfl)]
                    go_simp
                    exact hK _ _ ⟨x193, x194, x195, x196, x197, x198, .int .i64 1, .bool false, x201, x202, x203, x204, x205, x206, x207, x208, x209, x210, x211, x212, x213, x214, x215, x216, x217, by simp only [Act.put, List.setIfInBounds_toArray, List.set_cons_zero, List.set_cons_succ], B, up_ p193, up_ p194, up_ p195, up_ p196, up_ p197, up_ p198, fun _ => rfl, fun _ => rfl, up_ p201, up_ p202, up_ p203, up_ p204, up_ p205, up_ p206, up_ p207, up_ p208, up_ p209, up_ p210, up_ p211, up_ p212, up_ p213, up_ p214, up_ p215, up_ p216, up_ p217⟩
                  case op8 => as_aux_lemma =>
                    intro bb a_ w' h_
                    obtain ⟨x193, x194, x195, x196, x197, h_⟩ := h_
                    obtain ⟨x198, x199, x200, x201, x202, h_⟩ := h_
                    obtain ⟨x203, x204, x205, x206, x207, h_⟩ := h_
                    obtain ⟨x208, x209, x210, x211, x212, h_⟩ := h_
                    obtain ⟨x213, x214, x215, x216, x217, h_⟩ := h_
                    obtain ⟨e_, h_⟩ := h_
                    subst e_
                    obtain ⟨B, p193, p194, p195, p196, h_⟩ := h_
                    obtain ⟨p197, p198, p199, p200, p201, h_⟩ := h_
                    obtain ⟨p202, p203, p204, p205, p206, h_⟩ := h_
                    obtain ⟨p207, p208, p209, p210, p211, h_⟩ := h_
                    obtain ⟨p212, p213, p214, p215, p216, h_⟩ := h_
                    have p217 := h_
                    clear h_
                    intro hb hd K hK
                    simp only [Act.put, List.setIfInBounds_toArray, List.set_cons_zero, List.set_cons_succ]
                    obtain rfl := (p200 (hd 7 (by decide))).symm
                    rw [if_pos (by rfl)]
                    go_simp
                    exact hK _ _ ⟨x193, x194, x195, x196, x197, x198, x199, .bool false, .bool false, x202, x203, x204, x205, x206, x207, x208, x209, x210, x211, x212, x213, x214, x215, x216, x217, by simp only [Act.put, List.setIfInBounds_toArray, List.set_cons_zero, List.set_cons_succ], B, up_ p193, up_ p194, up_ p195, up_ p196, up_ p197, up_ p198, up_ p199, fun _ => rfl, fun _ => rfl, up_ p202, up_ p203, up_ p204, up_ p205, up_ p206, up_ p207, up_ p208, up_ p209, up_ p210, up_ p211, up_ p212, up_ p213, up_ p214, up_ p215, up_ p216, up_ p217⟩
                  case op9 => as_aux_lemma =>
                    intro bb a_ w' h_
                    obtain ⟨x193, x194, x195, x196, x197, h_⟩ := h_
                    obtain ⟨x198, x199, x200, x201, x202, h_⟩ := h_
                    obtain ⟨x203, x204, x205, x206, x207, h_⟩ := h_
                    obtain ⟨x208, x209, x210, x211, x212, h_⟩ := h_
                    obtain ⟨x213, x214, x215, x216, x217, h_⟩ := h_
                    obtain ⟨e_, h_⟩ := h_
                    subst e_
                    obtain ⟨B, p193, p194, p195, p196, h_⟩ := h_
                    obtain ⟨p197, p198, p199, p200, p201, h_⟩ := h_
                    obtain ⟨p202, p203, p204, p205, p206, h_⟩ := h_
                    obtain ⟨p207, p208, p209, p210, p211, h_⟩ := h_
                    obtain ⟨p212, p213, p214, p215, p216, h_⟩ := h_
                    have p217 := h_
                    clear h_
                    intro hb hd K hK
                    simp only [Act.put, List.setIfInBounds_toArray, List.set_cons_zero, List.set_cons_succ]
                    obtain rfl := (p201 (hd 8 (by decide))).symm
                    rw [if_pos (by rfl)]
                    have hn := HW.out.next B
                    obtain ⟨c0, c1', c2⟩ := cells3 hn.blk
                    go_simp
                    exact hK _ _ ⟨x193, x194, x195, x196, x197, x198, x199, x200, .bool false, .agg #[.int .i64 a, .int .i64 bh, .string s], x203, x204, x205, x206, x207, x208, x209, x210, x211, x212, x213, x214, x215, x216, x217, by simp only [Act.put, List.setIfInBounds_toArray, List.set_cons_zero, List.set_cons_succ], B, up_ p193, up_ p194, up_ p195, up_ p196, up_ p197, up_ p198, up_ p199, up_ p200, fun _ => rfl, fun _ => rfl, up_ p203, up_ p204, up_ p205, up_ p206, up_ p207, up_ p208, up_ p209, up_ p210, up_ p211, up_ p212, up_ p213, up_ p214, up_ p215, up_ p216, up_ p217⟩
                  case op10 => as_aux_lemma =>
                    intro bb a_ w' h_
                    obtain ⟨x193, x194, x195, x196, x197, h_⟩ := h_
                    obtain ⟨x198, x199, x200, x201, x202, h_⟩ := h_
                    obtain ⟨x203, x204, x205, x206, x207, h_⟩ := h_
                    obtain ⟨x208, x209, x210, x211, x212, h_⟩ := h_
                    obtain ⟨x213, x214, x215, x216, x217, h_⟩ := h_
                    obtain ⟨e_, h_⟩ := h_
                    subst e_
                    obtain ⟨B, p193, p194, p195, p196, h_⟩ := h_
                    obtain ⟨p197, p198, p199, p200, p201, h_⟩ := h_
                    obtain ⟨p202, p203, p204, p205, p206, h_⟩ := h_
                    obtain ⟨p207, p208, p209, p210, p211, h_⟩ := h_
                    obtain ⟨p212, p213, p214, p215, p216, h_⟩ := h_
                    have p217 := h_
                    clear h_
                    intro hb hd K hK
                    simp only [Act.put, List.setIfInBounds_toArray, List.set_cons_zero, List.set_cons_succ]
                    obtain rfl := (p201 (hd 8 (by decide))).symm
                    rw [if_pos (by rfl)]
                    go_simp
                    exact hK _ _ ⟨x193, x194, x195, x196, x197, x198, x199, x200, .bool false, x202, .slice (some ad5) r1.length n5, x204, x205, x206, x207, x208, x209, x210, x211, x212, x213, x214, x215, x216, x217, by simp only [Act.put, List.setIfInBounds_toArray, List.set_cons_zero, List.set_cons_succ], B, up_ p193, up_ p194, up_ p195, up_ p196, up_ p197, up_ p198, up_ p199, up_ p200, fun _ => rfl, up_ p202, fun _ => rfl, up_ p204, up_ p205, up_ p206, up_ p207, up_ p208, up_ p209, up_ p210, up_ p211, up_ p212, up_ p213, up_ p214, up_ p215, up_ p216, up_ p217⟩
                  case op11 => as_aux_lemma =>
                    intro bb a_ w' h_
                    obtain ⟨x193, x194, x195, x196, x197, h_⟩ := h_
                    obtain ⟨x198, x199, x200, x201, x202, h_⟩ := h_
                    obtain ⟨x203, x204, x205, x206, x207, h_⟩ := h_
                    obtain ⟨x208, x209, x210, x211, x212, h_⟩ := h_
                    obtain ⟨x213, x214, x215, x216, x217, h_⟩ := h_
                    obtain ⟨e_, h_⟩ := h_
                    subst e_
                    obtain ⟨B, p193, p194, p195, p196, h_⟩ := h_
                    obtain ⟨p197, p198, p199, p200, p201, h_⟩ := h_
                    obtain ⟨p202, p203, p204, p205, p206, h_⟩ := h_
                    obtain ⟨p207, p208, p209, p210, p211, h_⟩ := h_
                    obtain ⟨p212, p213, p214, p215, p216, h_⟩ := h_
                    have p217 := h_
                    clear h_
                    intro hb hd K hK
                    simp only [Act.put, List.setIfInBounds_toArray, List.set_cons_zero, List.set_cons_succ]
                    obtain rfl := (p201 (hd 8 (by decide))).symm
                    rw [if_pos (by rfl)]
                    go_simp
                    exact hK _ _ ⟨x193, x194, x195, x196, x197, x198, x199, x200, .bool false, x202, x203, .int .i64 (m : Int), x205, x206, x207, x208, x209, x210, x211, x212, x213, x214, x215, x216, x217, by simp only [Act.put, List.setIfInBounds_toArray, List.set_cons_zero, List.set_cons_succ], B, up_ p193, up_ p194, up_ p195, up_ p196, up_ p197, up_ p198, up_ p199, up_ p200, fun _ => rfl, up_ p202, up_ p203, fun _ => rfl, up_ p205, up_ p206, up_ p207, up_ p208, up_ p209, up_ p210, up_ p211, up_ p212, up_ p213, up_ p214, up_ p215, up_ p216, up_ p217⟩
                  case op12 => as_aux_lemma =>
                    intro bb a_ w' h_
                    obtain ⟨x193, x194, x195, x196, x197, h_⟩ := h_
                    obtain ⟨x198, x199, x200, x201, x202, h_⟩ := h_
                    obtain ⟨x203, x204, x205, x206, x207, h_⟩ := h_
                    obtain ⟨x208, x209, x210, x211, x212, h_⟩ := h_
                    obtain ⟨x213, x214, x215, x216, x217, h_⟩ := h_
                    obtain ⟨e_, h_⟩ := h_
                    subst e_
                    obtain ⟨B, p193, p194, p195, p196, h_⟩ := h_
                    obtain ⟨p197, p198, p199, p200, p201, h_⟩ := h_
                    obtain ⟨p202, p203, p204, p205, p206, h_⟩ := h_
                    obtain ⟨p207, p208, p209, p210, p211, h_⟩ := h_
                    obtain ⟨p212, p213, p214, p215, p216, h_⟩ := h_
                    have p217 := h_
                    clear h_
                    intro hb hd K hK
                    simp only [Act.put, List.setIfInBounds_toArray, List.set_cons_zero, List.set_cons_succ]
                    obtain rfl := (p201 (hd 8 (by decide))).symm
                    obtain rfl := (p203 (hd 10 (by decide))).symm
                    obtain rfl := (p204 (hd 11 (by decide))).symm
                    rw [if_pos (by rfl)]
                    go_simp
                    exact hK _ _ ⟨x193, x194, x195, x196, x197, x198, x199, x200, .bool false, x202, .slice (some ad5) r1.length n5, .int .i64 (m : Int), .pointer (some (ad5.add m)), x206, x207, x208, x209, x210, x211, x212, x213, x214, x215, x216, x217, by simp only [Act.put, List.setIfInBounds_toArray, List.set_cons_zero, List.set_cons_succ], B, up_ p193, up_ p194, up_ p195, up_ p196, up_ p197, up_ p198, up_ p199, up_ p200, fun _ => rfl, up_ p202, fun _ => rfl, fun _ => rfl, fun _ => rfl, up_ p206, up_ p207, up_ p208, up_ p209, up_ p210, up_ p211, up_ p212, up_ p213, up_ p214, up_ p215, up_ p216, up_ p217⟩
                  case op13 => as_aux_lemma =>
                    intro bb a_ w' h_
                    obtain ⟨x193, x194, x195, x196, x197, h_⟩ := h_
                    obtain ⟨x198, x199, x200, x201, x202, h_⟩ := h_
                    obtain ⟨x203, x204, x205, x206, x207, h_⟩ := h_
                    obtain ⟨x208, x209, x210, x211, x212, h_⟩ := h_
                    obtain ⟨x213, x214, x215, x216, x217, h_⟩ := h_
                    obtain ⟨e_, h_⟩ := h_
                    subst e_
                    obtain ⟨B, p193, p194, p195, p196, h_⟩ := h_
                    obtain ⟨p197, p198, p199, p200, p201, h_⟩ := h_
                    obtain ⟨p202, p203, p204, p205, p206, h_⟩ := h_
                    obtain ⟨p207, p208, p209, p210, p211, h_⟩ := h_
                    obtain ⟨p212, p213, p214, p215, p216, h_⟩ := h_
                    have p217 := h_
                    clear h_
                    intro hb hd K hK
                    simp only [Act.put, List.setIfInBounds_toArray, List.set_cons_zero, List.set_cons_succ]
                    obtain rfl := (p201 (hd 8 (by decide))).symm
                    obtain rfl := (p205 (hd 12 (by decide))).symm
                    rw [if_pos (by rfl)]
                    have hx0 := nx_at (Kd.Q_below HW.out.res B) hmn HX.out
                    go_simp
                    exact hK _ _ ⟨x193, x194, x195, x196, x197, x198, x199, x200, .bool false, x202, x203, x204, .pointer (some (ad5.add m)), .int .i64 x, x207, x208, x209, x210, x211, x212, x213, x214, x215, x216, x217, by simp only [Act.put, List.setIfInBounds_toArray, List.set_cons_zero, List.set_cons_succ], B, up_ p193, up_ p194, up_ p195, up_ p196, up_ p197, up_ p198, up_ p199, up_ p200, fun _ => rfl, up_ p202, up_ p203, up_ p204, fun _ => rfl, fun _ => rfl, up_ p207, up_ p208, up_ p209, up_ p210, up_ p211, up_ p212, up_ p213, up_ p214, up_ p215, up_ p216, up_ p217⟩
                  case op14 => as_aux_lemma =>
                    intro bb a_ w' h_
                    obtain ⟨x193, x194, x195, x196, x197, h_⟩ := h_
                    obtain ⟨x198, x199, x200, x201, x202, h_⟩ := h_
                    obtain ⟨x203, x204, x205, x206, x207, h_⟩ := h_
                    obtain ⟨x208, x209, x210, x211, x212, h_⟩ := h_
                    obtain ⟨x213, x214, x215, x216, x217, h_⟩ := h_
                    obtain ⟨e_, h_⟩ := h_
                    subst e_
                    obtain ⟨B, p193, p194, p195, p196, h_⟩ := h_
                    obtain ⟨p197, p198, p199, p200, p201, h_⟩ := h_
                    obtain ⟨p202, p203, p204, p205, p206, h_⟩ := h_
                    obtain ⟨p207, p208, p209, p210, p211, h_⟩ := h_
                    obtain ⟨p212, p213, p214, p215, p216, h_⟩ := h_
                    have p217 := h_
                    clear h_
                    intro hb hd K hK
                    simp only [Act.put, List.setIfInBounds_toArray, List.set_cons_zero, List.set_cons_succ]
                    obtain rfl := (p201 (hd 8 (by decide))).symm
                    obtain rfl := (p202 (hd 9 (by decide))).symm
                    obtain rfl := (p206 (hd 13 (by decide))).symm
                    rw [if_pos (by rfl)]
                    go_simp
                    refine (WC.out _).mono ?_
                    rintro e w2 ⟨rfl, hb2⟩
                    exact hK _ _ ⟨x193, x194, x195, x196, x197, x198, x199, x200, .bool false, .agg #[.int .i64 a, .int .i64 bh, .string s], x203, x204, x205, .int .i64 x, .bool true, x208, x209, x210, x211, x212, x213, x214, x215, x216, x217, by simp only [Act.put, List.setIfInBounds_toArray, List.set_cons_zero, List.set_cons_succ], below_then B B.size hb2, up_ p193, up_ p194, up_ p195, up_ p196, up_ p197, up_ p198, up_ p199, up_ p200, fun _ => rfl, fun _ => rfl, up_ p203, up_ p204, up_ p205, fun _ => rfl, fun _ => rfl, up_ p208, up_ p209, up_ p210, up_ p211, up_ p212, up_ p213, up_ p214, up_ p215, up_ p216, up_ p217⟩
                  case op15 => as_aux_lemma =>
                    intro bb a_ w' h_
                    obtain ⟨x193, x194, x195, x196, x197, h_⟩ := h_
                    obtain ⟨x198, x199, x200, x201, x202, h_⟩ := h_
                    obtain ⟨x203, x204, x205, x206, x207, h_⟩ := h_
                    obtain ⟨x208, x209, x210, x211, x212, h_⟩ := h_
                    obtain ⟨x213, x214, x215, x216, x217, h_⟩ := h_
                    obtain ⟨e_, h_⟩ := h_
                    subst e_
                    obtain ⟨B, p193, p194, p195, p196, h_⟩ := h_
                    obtain ⟨p197, p198, p199, p200, p201, h_⟩ := h_
                    obtain ⟨p202, p203, p204, p205, p206, h_⟩ := h_
                    obtain ⟨p207, p208, p209, p210, p211, h_⟩ := h_
                    obtain ⟨p212, p213, p214, p215, p216, h_⟩ := h_
                    have p217 := h_
                    clear h_
                    intro hb hd K hK
                    simp only [Act.put, List.setIfInBounds_toArray, List.set_cons_zero, List.set_cons_succ]
                    obtain rfl := (p201 (hd 8 (by decide))).symm
                    obtain rfl := (p207 (hd 14 (by decide))).symm
                    rw [if_pos (by rfl)]
                    go_simp
                    exact hK _ _ ⟨x193, x194, x195, x196, x197, x198, x199, x200, .bool false, x202, x203, x204, x205, x206, .bool true, .bool false, x209, x210, x211, x212, x213, x214, x215, x216, x217, by simp only [Act.put, List.setIfInBounds_toArray, List.set_cons_zero, List.set_cons_succ], B, up_ p193, up_ p194, up_ p195, up_ p196, up_ p197, up_ p198, up_ p199, up_ p200, fun _ => rfl, up_ p202, up_ p203, up_ p204, up_ p205, up_ p206, fun _ => rfl, fun _ => rfl, up_ p209, up_ p210, up_ p211, up_ p212, up_ p213, up_ p214, up_ p215, up_ p216, up_ p217⟩
                  case op16 => as_aux_lemma =>
                    intro bb a_ w' h_
                    obtain ⟨x193, x194, x195, x196, x197, h_⟩ := h_
                    obtain ⟨x198, x199, x200, x201, x202, h_⟩ := h_
                    obtain ⟨x203, x204, x205, x206, x207, h_⟩ := h_
                    obtain ⟨x208, x209, x210, x211, x212, h_⟩ := h_
                    obtain ⟨x213, x214, x215, x216, x217, h_⟩ := h_
                    obtain ⟨e_, h_⟩ := h_
                    subst e_
                    obtain ⟨B, p193, p194, p195, p196, h_⟩ := h_
                    obtain ⟨p197, p198, p199, p200, p201, h_⟩ := h_
                    obtain ⟨p202, p203, p204, p205, p206, h_⟩ := h_
                    obtain ⟨p207, p208, p209, p210, p211, h_⟩ := h_
                    obtain ⟨p212, p213, p214, p215, p216, h_⟩ := h_
                    have p217 := h_
                    clear h_
                    intro hb hd K hK
                    simp only [Act.put, List.setIfInBounds_toArray, List.set_cons_zero, List.set_cons_succ]
                    obtain rfl := (p201 (hd 8 (by decide))).symm
                    obtain rfl := (p208 (hd 15 (by decide))).symm
                    rw [if_pos (by rfl)]
                    go_simp
                    exact hK _ _ ⟨x193, x194, x195, x196, x197, x198, x199, x200, .bool false, x202, x203, x204, x205, x206, x207, .bool false, .bool false, x210, x211, x212, x213, x214, x215, x216, x217, by simp only [Act.put, List.setIfInBounds_toArray, List.set_cons_zero, List.set_cons_succ], B, up_ p193, up_ p194, up_ p195, up_ p196, up_ p197, up_ p198, up_ p199, up_ p200, fun _ => rfl, up_ p202, up_ p203, up_ p204, up_ p205, up_ p206, up_ p207, fun _ => rfl, fun _ => rfl, up_ p210, up_ p211, up_ p212, up_ p213, up_ p214, up_ p215, up_ p216, up_ p217⟩
                  case op17 => as_aux_lemma =>
                    intro bb a_ w' h_
                    obtain ⟨x193, x194, x195, x196, x197, h_⟩ := h_
                    obtain ⟨x198, x199, x200, x201, x202, h_⟩ := h_
                    obtain ⟨x203, x204, x205, x206, x207, h_⟩ := h_
                    obtain ⟨x208, x209, x210, x211, x212, h_⟩ := h_
                    obtain ⟨x213, x214, x215, x216, x217, h_⟩ := h_
                    obtain ⟨e_, h_⟩ := h_
                    subst e_
                    obtain ⟨B, p193, p194, p195, p196, h_⟩ := h_
                    obtain ⟨p197, p198, p199, p200, p201, h_⟩ := h_
                    obtain ⟨p202, p203, p204, p205, p206, h_⟩ := h_
                    obtain ⟨p207, p208, p209, p210, p211, h_⟩ := h_
                    obtain ⟨p212, p213, p214, p215, p216, h_⟩ := h_
                    have p217 := h_
                    clear h_
                    intro hb hd K hK
                    simp only [Act.put, List.setIfInBounds_toArray, List.set_cons_zero, List.set_cons_succ]
                    obtain rfl := (p209 (hd 16 (by decide))).symm
                    rw [if_pos (by rfl)]
                    go_simp
                    exact hK _ _ ⟨x193, x194, x195, x196, x197, x198, x199, x200, x201, x202, x203, x204, x205, x206, x207, x208, .bool false, .bool false, x211, x212, x213, x214, x215, x216, x217, by simp only [Act.put, List.setIfInBounds_toArray, List.set_cons_zero, List.set_cons_succ], B, up_ p193, up_ p194, up_ p195, up_ p196, up_ p197, up_ p198, up_ p199, up_ p200, up_ p201, up_ p202, up_ p203, up_ p204, up_ p205, up_ p206, up_ p207, up_ p208, fun _ => rfl, fun _ => rfl, up_ p211, up_ p212, up_ p213, up_ p214, up_ p215, up_ p216, up_ p217⟩
                  case op18 => as_aux_lemma =>
                    intro bb a_ w' h_
                    obtain ⟨x193, x194, x195, x196, x197, h_⟩ := h_
                    obtain ⟨x198, x199, x200, x201, x202, h_⟩ := h_
                    obtain ⟨x203, x204, x205, x206, x207, h_⟩ := h_
                    obtain ⟨x208, x209, x210, x211, x212, h_⟩ := h_
                    obtain ⟨x213, x214, x215, x216, x217, h_⟩ := h_
                    obtain ⟨e_, h_⟩ := h_
                    subst e_
                    obtain ⟨B, p193, p194, p195, p196, h_⟩ := h_
                    obtain ⟨p197, p198, p199, p200, p201, h_⟩ := h_
                    obtain ⟨p202, p203, p204, p205, p206, h_⟩ := h_
                    obtain ⟨p207, p208, p209, p210, p211, h_⟩ := h_
                    obtain ⟨p212, p213, p214, p215, p216, h_⟩ := h_
                    have p217 := h_
                    clear h_
                    intro hb hd K hK
                    simp only [Act.put, List.setIfInBounds_toArray, List.set_cons_zero, List.set_cons_succ]
                    obtain rfl := (p210 (hd 17 (by decide))).symm
                    rw [if_pos (by rfl)]
                    have hn := HW.out.next B
                    have c19 := (blk_cell hn.var 0).trans rfl
                    go_simp
                    exact hK _ _ ⟨x193, x194, x195, x196, x197, x198, x199, x200, x201, x202, x203, x204, x205, x206, x207, x208, x209, .bool false, .map (some gm), x212, x213, x214, x215, x216, x217, by simp only [Act.put, List.setIfInBounds_toArray, List.set_cons_zero, List.set_cons_succ], B, up_ p193, up_ p194, up_ p195, up_ p196, up_ p197, up_ p198, up_ p199, up_ p200, up_ p201, up_ p202, up_ p203, up_ p204, up_ p205, up_ p206, up_ p207, up_ p208, up_ p209, fun _ => rfl, fun _ => rfl, up_ p212, up_ p213, up_ p214, up_ p215, up_ p216, up_ p217⟩
                  case op19 => as_aux_lemma =>
                    intro bb a_ w' h_
                    obtain ⟨x193, x194, x195, x196, x197, h_⟩ := h_
                    obtain ⟨x198, x199, x200, x201, x202, h_⟩ := h_
                    obtain ⟨x203, x204, x205, x206, x207, h_⟩ := h_
                    obtain ⟨x208, x209, x210, x211, x212, h_⟩ := h_
                    obtain ⟨x213, x214, x215, x216, x217, h_⟩ := h_
                    obtain ⟨e_, h_⟩ := h_
                    subst e_
                    obtain ⟨B, p193, p194, p195, p196, h_⟩ := h_
                    obtain ⟨p197, p198, p199, p200, p201, h_⟩ := h_
                    obtain ⟨p202, p203, p204, p205, p206, h_⟩ := h_
                    obtain ⟨p207, p208, p209, p210, p211, h_⟩ := h_
                    obtain ⟨p212, p213, p214, p215, p216, h_⟩ := h_
                    have p217 := h_
                    clear h_
                    intro hb hd K hK
                    simp only [Act.put, List.setIfInBounds_toArray, List.set_cons_zero, List.set_cons_succ]
                    obtain rfl := (p210 (hd 17 (by decide))).symm
                    rw [if_pos (by rfl)]
                    go_simp
                    exact hK _ _ ⟨x193, x194, x195, x196, x197, x198, x199, x200, x201, x202, x203, x204, x205, x206, x207, x208, x209, .bool false, x211, .slice (some ad5) r1.length n5, x213, x214, x215, x216, x217, by simp only [Act.put, List.setIfInBounds_toArray, List.set_cons_zero, List.set_cons_succ], B, up_ p193, up_ p194, up_ p195, up_ p196, up_ p197, up_ p198, up_ p199, up_ p200, up_ p201, up_ p202, up_ p203, up_ p204, up_ p205, up_ p206, up_ p207, up_ p208, up_ p209, fun _ => rfl, up_ p211, fun _ => rfl, up_ p213, up_ p214, up_ p215, up_ p216, up_ p217⟩
                  case op20 => as_aux_lemma =>
                    intro bb a_ w' h_
                    obtain ⟨x193, x194, x195, x196, x197, h_⟩ := h_
                    obtain ⟨x198, x199, x200, x201, x202, h_⟩ := h_
                    obtain ⟨x203, x204, x205, x206, x207, h_⟩ := h_
                    obtain ⟨x208, x209, x210, x211, x212, h_⟩ := h_
                    obtain ⟨x213, x214, x215, x216, x217, h_⟩ := h_
                    obtain ⟨e_, h_⟩ := h_
                    subst e_
                    obtain ⟨B, p193, p194, p195, p196, h_⟩ := h_
                    obtain ⟨p197, p198, p199, p200, p201, h_⟩ := h_
                    obtain ⟨p202, p203, p204, p205, p206, h_⟩ := h_
                    obtain ⟨p207, p208, p209, p210, p211, h_⟩ := h_
                    obtain ⟨p212, p213, p214, p215, p216, h_⟩ := h_
                    have p217 := h_
                    clear h_
                    intro hb hd K hK
                    simp only [Act.put, List.setIfInBounds_toArray, List.set_cons_zero, List.set_cons_succ]
                    obtain rfl := (p210 (hd 17 (by decide))).symm
                    rw [if_pos (by rfl)]
                    go_simp
                    exact hK _ _ ⟨x193, x194, x195, x196, x197, x198, x199, x200, x201, x202, x203, x204, x205, x206, x207, x208, x209, .bool false, x211, x212, .int .i64 (m : Int), x214, x215, x216, x217, by simp only [Act.put, List.setIfInBounds_toArray, List.set_cons_zero, List.set_cons_succ], B, up_ p193, up_ p194, up_ p195, up_ p196, up_ p197, up_ p198, up_ p199, up_ p200, up_ p201, up_ p202, up_ p203, up_ p204, up_ p205, up_ p206, up_ p207, up_ p208, up_ p209, fun _ => rfl, up_ p211, up_ p212, fun _ => rfl, up_ p214, up_ p215, up_ p216, up_ p217⟩
                  case op21 => as_aux_lemma =>
                    intro bb a_ w' h_
                    obtain ⟨x193, x194, x195, x196, x197, h_⟩ := h_
                    obtain ⟨x198, x199, x200, x201, x202, h_⟩ := h_
                    obtain ⟨x203, x204, x205, x206, x207, h_⟩ := h_
                    obtain ⟨x208, x209, x210, x211, x212, h_⟩ := h_
                    obtain ⟨x213, x214, x215, x216, x217, h_⟩ := h_
                    obtain ⟨e_, h_⟩ := h_
                    subst e_
                    obtain ⟨B, p193, p194, p195, p196, h_⟩ := h_
                    obtain ⟨p197, p198, p199, p200, p201, h_⟩ := h_
                    obtain ⟨p202, p203, p204, p205, p206, h_⟩ := h_
                    obtain ⟨p207, p208, p209, p210, p211, h_⟩ := h_
                    obtain ⟨p212, p213, p214, p215, p216, h_⟩ := h_
                    have p217 := h_
                    clear h_
                    intro hb hd K hK
                    simp only [Act.put, List.setIfInBounds_toArray, List.set_cons_zero, List.set_cons_succ]
                    obtain rfl := (p210 (hd 17 (by decide))).symm
                    obtain rfl := (p212 (hd 19 (by decide))).symm
                    obtain rfl := (p213 (hd 20 (by decide))).symm
                    rw [if_pos (by rfl)]
                    go_simp
                    exact hK _ _ ⟨x193, x194, x195, x196, x197, x198, x199, x200, x201, x202, x203, x204, x205, x206, x207, x208, x209, .bool false, x211, .slice (some ad5) r1.length n5, .int .i64 (m : Int), .pointer (some (ad5.add m)), x215, x216, x217, by simp only [Act.put, List.setIfInBounds_toArray, List.set_cons_zero, List.set_cons_succ], B, up_ p193, up_ p194, up_ p195, up_ p196, up_ p197, up_ p198, up_ p199, up_ p200, up_ p201, up_ p202, up_ p203, up_ p204, up_ p205, up_ p206, up_ p207, up_ p208, up_ p209, fun _ => rfl, up_ p211, fun _ => rfl, fun _ => rfl, fun _ => rfl, up_ p215, up_ p216, up_ p217⟩
                  case op22 => as_aux_lemma =>
                    intro bb a_ w' h_
                    obtain ⟨x193, x194, x195, x196, x197, h_⟩ := h_
                    obtain ⟨x198, x199, x200, x201, x202, h_⟩ := h_
                    obtain ⟨x203, x204, x205, x206, x207, h_⟩ := h_
                    obtain ⟨x208, x209, x210, x211, x212, h_⟩ := h_
                    obtain ⟨x213, x214, x215, x216, x217, h_⟩ := h_
                    obtain ⟨e_, h_⟩ := h_
                    subst e_
                    obtain ⟨B, p193, p194, p195, p196, h_⟩ := h_
                    obtain ⟨p197, p198, p199, p200, p201, h_⟩ := h_
                    obtain ⟨p202, p203, p204, p205, p206, h_⟩ := h_
                    obtain ⟨p207, p208, p209, p210, p211, h_⟩ := h_
                    obtain ⟨p212, p213, p214, p215, p216, h_⟩ := h_
                    have p217 := h_
                    clear h_
                    intro hb hd K hK
                    simp only [Act.put, List.setIfInBounds_toArray, List.set_cons_zero, List.set_cons_succ]
                    obtain rfl := (p210 (hd 17 (by decide))).symm
                    obtain rfl := (p214 (hd 21 (by decide))).symm
                    rw [if_pos (by rfl)]
                    have hx0 := nx_at (Kd.Q_below HW.out.res B) hmn HX.out
                    go_simp
                    exact hK _ _ ⟨x193, x194, x195, x196, x197, x198, x199, x200, x201, x202, x203, x204, x205, x206, x207, x208, x209, .bool false, x211, x212, x213, .pointer (some (ad5.add m)), .int .i64 x, x216, x217, by simp only [Act.put, List.setIfInBounds_toArray, List.set_cons_zero, List.set_cons_succ], B, up_ p193, up_ p194, up_ p195, up_ p196, up_ p197, up_ p198, up_ p199, up_ p200, up_ p201, up_ p202, up_ p203, up_ p204, up_ p205, up_ p206, up_ p207, up_ p208, up_ p209, fun _ => rfl, up_ p211, up_ p212, up_ p213, fun _ => rfl, fun _ => rfl, up_ p216, up_ p217⟩
                  case op23 => as_aux_lemma =>
                    intro bb a_ w' h_
                    obtain ⟨x193, x194, x195, x196, x197, h_⟩ := h_
                    obtain ⟨x198, x199, x200, x201, x202, h_⟩ := h_
                    obtain ⟨x203, x204, x205, x206, x207, h_⟩ := h_
                    obtain ⟨x208, x209, x210, x211, x212, h_⟩ := h_
                    obtain ⟨x213, x214, x215, x216, x217, h_⟩ := h_
                    obtain ⟨e_, h_⟩ := h_
                    subst e_
                    obtain ⟨B, p193, p194, p195, p196, h_⟩ := h_
                    obtain ⟨p197, p198, p199, p200, p201, h_⟩ := h_
                    obtain ⟨p202, p203, p204, p205, p206, h_⟩ := h_
                    obtain ⟨p207, p208, p209, p210, p211, h_⟩ := h_
                    obtain ⟨p212, p213, p214, p215, p216, h_⟩ := h_
                    have p217 := h_
                    clear h_
                    intro hb hd K hK
                    simp only [Act.put, List.setIfInBounds_toArray, List.set_cons_zero, List.set_cons_succ]
                    obtain rfl := (p210 (hd 17 (by decide))).symm
                    obtain rfl := (p211 (hd 18 (by decide))).symm
                    obtain rfl := (p215 (hd 22 (by decide))).symm
                    rw [if_pos (by rfl)]
                    have hn := HW.out.next B
                    have hl := hn.is HZ.out
                    go_simp
                    exact hK _ _ ⟨x193, x194, x195, x196, x197, x198, x199, x200, x201, x202, x203, x204, x205, x206, x207, x208, x209, .bool false, .map (some gm), x212, x213, x214, .int .i64 x, .bool false, x217, by simp only [Act.put, List.setIfInBounds_toArray, List.set_cons_zero, List.set_cons_succ], B, up_ p193, up_ p194, up_ p195, up_ p196, up_ p197, up_ p198, up_ p199, up_ p200, up_ p201, up_ p202, up_ p203, up_ p204, up_ p205, up_ p206, up_ p207, up_ p208, up_ p209, fun _ => rfl, fun _ => rfl, up_ p212, up_ p213, up_ p214, fun _ => rfl, fun _ => rfl, up_ p217⟩
                  case op24 => as_aux_lemma =>
                    intro bb a_ w' h_
                    obtain ⟨x193, x194, x195, x196, x197, h_⟩ := h_
                    obtain ⟨x198, x199, x200, x201, x202, h_⟩ := h_
                    obtain ⟨x203, x204, x205, x206, x207, h_⟩ := h_
                    obtain ⟨x208, x209, x210, x211, x212, h_⟩ := h_
                    obtain ⟨x213, x214, x215, x216, x217, h_⟩ := h_
                    obtain ⟨e_, h_⟩ := h_
                    subst e_
                    obtain ⟨B, p193, p194, p195, p196, h_⟩ := h_
                    obtain ⟨p197, p198, p199, p200, p201, h_⟩ := h_
                    obtain ⟨p202, p203, p204, p205, p206, h_⟩ := h_
                    obtain ⟨p207, p208, p209, p210, p211, h_⟩ := h_
                    obtain ⟨p212, p213, p214, p215, p216, h_⟩ := h_
                    have p217 := h_
                    clear h_
                    intro hb hd K hK
                    simp only [Act.put, List.setIfInBounds_toArray, List.set_cons_zero, List.set_cons_succ]
                    obtain rfl := (p210 (hd 17 (by decide))).symm
                    obtain rfl := (p216 (hd 23 (by decide))).symm
                    rw [if_pos (by rfl)]
                    go_simp
                    exact hK _ _ ⟨x193, x194, x195, x196, x197, x198, x199, x200, x201, x202, x203, x204, x205, x206, x207, x208, x209, .bool false, x211, x212, x213, x214, x215, .bool false, .bool false, by simp only [Act.put, List.setIfInBounds_toArray, List.set_cons_zero, List.set_cons_succ], B, up_ p193, up_ p194, up_ p195, up_ p196, up_ p197, up_ p198, up_ p199, up_ p200, up_ p201, up_ p202, up_ p203, up_ p204, up_ p205, up_ p206, up_ p207, up_ p208, up_ p209, fun _ => rfl, up_ p211, up_ p212, up_ p213, up_ p214, up_ p215, fun _ => rfl, fun _ => rfl⟩
                  case done => as_aux_lemma =>
                    intro bb a_ w' hb h_
                    obtain ⟨x193, x194, x195, x196, x197, h_⟩ := h_
                    obtain ⟨x198, x199, x200, x201, x202, h_⟩ := h_
                    obtain ⟨x203, x204, x205, x206, x207, h_⟩ := h_
                    obtain ⟨x208, x209, x210, x211, x212, h_⟩ := h_
                    obtain ⟨x213, x214, x215, x216, x217, h_⟩ := h_
                    obtain ⟨e_, h_⟩ := h_
                    subst e_
                    obtain ⟨B, p193, p194, p195, p196, h_⟩ := h_
                    obtain ⟨p197, p198, p199, p200, p201, h_⟩ := h_
                    obtain ⟨p202, p203, p204, p205, p206, h_⟩ := h_
                    obtain ⟨p207, p208, p209, p210, p211, h_⟩ := h_
                    obtain ⟨p212, p213, p214, p215, p216, h_⟩ := h_
                    have p217 := h_
                    clear h_
                    obtain rfl := (p193 (hb 0 (by decide))).symm
                    obtain rfl := (p194 (hb 1 (by decide))).symm
                    obtain rfl := (p195 (hb 2 (by decide))).symm
                    obtain rfl := (p196 (hb 3 (by decide))).symm
                    obtain rfl := (p197 (hb 4 (by decide))).symm
                    obtain rfl := (p198 (hb 5 (by decide))).symm
                    obtain rfl := (p199 (hb 6 (by decide))).symm
                    obtain rfl := (p200 (hb 7 (by decide))).symm
                    obtain rfl := (p201 (hb 8 (by decide))).symm
                    obtain rfl := (p202 (hb 9 (by decide))).symm
                    obtain rfl := (p203 (hb 10 (by decide))).symm
                    obtain rfl := (p204 (hb 11 (by decide))).symm
                    obtain rfl := (p205 (hb 12 (by decide))).symm
                    obtain rfl := (p206 (hb 13 (by decide))).symm
                    obtain rfl := (p207 (hb 14 (by decide))).symm
                    obtain rfl := (p208 (hb 15 (by decide))).symm
                    obtain rfl := (p209 (hb 16 (by decide))).symm
                    obtain rfl := (p210 (hb 17 (by decide))).symm
                    obtain rfl := (p211 (hb 18 (by decide))).symm
                    obtain rfl := (p212 (hb 19 (by decide))).symm
                    obtain rfl := (p213 (hb 20 (by decide))).symm
                    obtain rfl := (p214 (hb 21 (by decide))).symm
                    obtain rfl := (p215 (hb 22 (by decide))).symm
                    obtain rfl := (p216 (hb 23 (by decide))).symm
                    obtain rfl := (p217 (hb 24 (by decide))).symm
                    simp only [Act.put, List.setIfInBounds_toArray, List.set_cons_zero, List.set_cons_succ]
                    have HWB := Lib.hid (HW.out.next B)
                    have hx9 := nx_at HWB.out.res hmn HX.out
                    clear hb B HW FC WC HZ
                    go_wp2_with fail
                    go_roundg k2
                    case measure => omega
                    case rel => exact ⟨m + 1, x, rfl, by push_cast; rfl, by omega, by omega, HFW2, HOX, HWB⟩
                · have dm : decide ((m : Int) < (r1.length : Int)) = false := decide_eq_false (by omega)
                  have hfw := HFW.out
                  rw [List.drop_eq_nil_of_le (by omega)] at hfw
                  obtain rfl : u = tt := hfw
                  have hfar := far_g hO u goal 5 (by omega)
                  obtain ⟨dd, hdd⟩ : ∃ d, farI a s u goal = d := ⟨_, rfl⟩
                  rw [hdd] at hfar
                  have hdn : dd ≤ near := by have := HTZ.out; unfold hh at this; split at this <;> omega
                  have hdn2 : decide (dd ≤ near) = true := decide_eq_true hdn
                  have FC := Lib.hid (fun W => grid_Map_Far.calls 5 a bh s u goal dd W hfar)
                  obtain ⟨c0, c1', c2⟩ := cells3 HW.out.blk
                  clear hfar hdd HFW HTZ
                  go_wp2_with (first
                    | (refine (FC.out _).mono ?_; rintro e w7 ⟨rfl, hb⟩; have HB7 := Lib.hid (below_then HW.out.bel HW.out.bel.size hb); clear hb FC c0 c1' c2)
                    | (refine (WK.out _).mono ?_; rintro e w8 ⟨rfl, hb⟩; have HB8 := Lib.hid (below_then HB7.out HB7.out.size hb); clear hb WK)
                    | fail)
                  go_ret
                  exact ⟨rfl, HB8.out⟩
end Go.Proofs.Ytkbimhngbdbgdaa.PPathFinds
