/- Path: the law PathFinds: the walk. No condition. -/
import Derived.Test.YtkbimhngbdbgdaaWakes
import Derived.Test.YtkbimhngbdbgdaaQX
import Derived.Test.YtkbimhngbdbgdaaPRefFind
namespace Go.Proofs.Ytkbimhngbdbgdaa.PPathFinds
open Go.RowKit Go.Proofs.Ytkbimhngbdbgdaa.Pure Go.Proofs.YtkbimhngbdbgdaaW.PrintWords Go.Proofs.YtkbimhngbdbgdaaW.PrintLast Go.Proofs.YtkbimhngbdbgdaaW.PrintMore
attribute [local go_sem] max2_int min2_int max_two min_two max_three min_three max_four min_four   -- for this text's walks alone
set_option linter.unusedVariables false
set_option linter.unusedSimpArgs false
set_option maxHeartbeats 8000000
set_option maxRecDepth 20000
theorem fd_len (q : SP) (B : Int → Bool) : ∀ (n : Nat) (l : List S51) (F : Int → Option (Int × Int × Bool)) (R : List Int × Bool), fd q B n l F = some R → R.1.length ≤ 100000
  | 0, l, F, R, h => by
    unfold fd at h
    obtain rfl := Option.some.inj h
    simp
  | n + 1, l, F, R, h => by
    unfold fd at h
    split at h
    · split at h
      · obtain rfl := Option.some.inj h
        simp
      · split at h
        · obtain ⟨r, hr, h⟩ := Option.bind_eq_some_iff.1 h
          split at h
          · rename_i hl
            obtain rfl := Option.some.inj h
            simpa using hl
          · cases h
        · obtain ⟨nx, hnx, h⟩ := Option.bind_eq_some_iff.1 h
          split at h
          · obtain ⟨s, hs, h⟩ := Option.bind_eq_some_iff.1 h
            exact fd_len q B n _ _ R h
          · cases h
    · cases h
/-- both Finds, one answer -/
theorem find_both {a b : Int} {s : ByteArray} (h : Okd a b s) (h2 : 2 ≤ a) (from_ goal near : Int) (hn : near ≤ 9223372036854775807) (busy : List Int) (hbl : busy.length ≤ 1000) :
    ∃ R : List Int × Bool, R.1.length ≤ 100000 ∧ (∀ W bz, Bz W bz (fun x => decide (x ∈ busy)) → Calls Try.prog 8 #[.agg #[.int .i64 a, .int .i64 b, .string s], bz, .int .i64 from_, .int .i64 goal, .int .i64 near] W fun e W' => ∃ vo, e = .returned (.tuple #[vo, .bool R.2]) ∧ Kd.R (Kd.int .i64) 3 W' W.heap.size (fun _ => True) vo R.1 ∧ Below W.heap.size W W') ∧
      ∃ K, ∀ k, K ≤ k → rematchref10_Find.f k a b s busy from_ goal near = some R := by
  by_cases hno : onB s from_ = true ∧ onB s goal = true ∧ 0 ≤ near
  · obtain ⟨R, hR0, K, hK⟩ := find_on h h2 ⟨hno.2.2, hn⟩ hno.1 hno.2.1 busy hbl .nilFunc
    refine ⟨R, fd_len _ _ _ _ _ _ (hR0 0), fun W bz hbz => ?_, K, hK⟩
    obtain ⟨R', hR, K', hK'⟩ := find_on h h2 ⟨hno.2.2, hn⟩ hno.1 hno.2.1 busy hbl bz
    have e1 := hK (K + K') (by omega)
    have e2 := hK' (K + K') (by omega)
    rw [e1] at e2
    obtain rfl := Option.some.inj e2
    have hfr := farI_range h from_ goal
    exact find_yes W a b s bz _ from_ goal near (farI a s from_ goal) R hbz (onB_true hno.1) (onB_true hno.2.1) ⟨hno.2.2, hn⟩ (far_g h from_ goal 5 (by omega)) ⟨hfr.1, by omega⟩ hR
  · refine ⟨([], false), by simp, fun W bz _ => ?_, 1, find_off h hno busy⟩
    exact (find_no W a b s bz from_ goal near hno).mono (fun e W' ⟨h1, h2⟩ => ⟨_, h1, Kd.R_nil _ _ _ _ _, h2⟩)
def fm (busy : List Int) (i : Nat) : Int → Option Value := fun k => if k ∈ busy.take i then some (.bool true) else none
theorem fm_step (busy : List Int) (i : Nat) (h : i < busy.length) : mUp (fm busy i) busy[i] (.bool true) = fm busy (i + 1) := by
  funext k
  unfold mUp fm
  have hm : k ∈ busy.take (i + 1) ↔ k ∈ busy.take i ∨ k = busy[i] := by rw [List.take_succ_eq_append_getElem h, List.mem_append, List.mem_singleton]
  by_cases e : k = busy[i]
  · rw [if_pos e, if_pos (hm.2 (.inr e))]
  · rw [if_neg e]
    by_cases hk : k ∈ busy.take i
    · rw [if_pos hk, if_pos (hm.2 (.inl hk))]
    · rw [if_neg hk, if_neg (fun hh => (hm.1 hh).elim hk e)]
theorem law_walk (a b : Int) (s : ByteArray) (A1 : Option Addr) (c1 : Nat) (busy : List Int) (from_ goal near : Int) (w : World) (hC : Kd.C (Kd.int .i64) w A1 busy.length busy) (hc1 : busy.length ≤ c1) (hn : near ≤ 9223372036854775807) :
    Calls Try.prog 3 #[.int .i64 a, .int .i64 b, .string s, .slice A1 busy.length c1, .int .i64 from_, .int .i64 goal, .int .i64 near] w fun e W' => e = .returned (.bool true) ∧ Below w.heap.size w W' := by
  have WK := Lib.hid (fun W => wakes_calls W)
  have HCC := Lib.hid hC
  by_cases hb1 : (400 : Int) < s.size
  · have d1 : decide ((400 : Int) < s.size) = true := decide_eq_true hb1
    clear hC
    go_enter Try.func3, Try.ntmps3
    go_wp2_with (first | (refine (WK.out _).mono ?_; rintro e w1 ⟨rfl, hb⟩; have HB1 := Lib.hid hb; clear hb WK) | fail)
    go_ret
    exact ⟨rfl, HB1.out⟩
  by_cases hb2 : (100 : Int) < busy.length
  · have d1 : decide ((400 : Int) < s.size) = false := decide_eq_false hb1
    have d2 : decide ((100 : Int) < busy.length) = true := decide_eq_true hb2
    clear hC
    go_enter Try.func3, Try.ntmps3
    go_wp2_with (first | (refine (WK.out _).mono ?_; rintro e w1 ⟨rfl, hb⟩; have HB1 := Lib.hid hb; clear hb WK) | fail)
    go_ret
    exact ⟨rfl, HB1.out⟩
  have d1 : decide ((400 : Int) < s.size) = false := decide_eq_false hb1
  have d2 : decide ((100 : Int) < busy.length) = false := decide_eq_false hb2
  have hmay := may_r a b s (by omega) (s.size + 2) (by omega)
  by_cases hok : grid_ok a b s
  rotate_left
  · have hnew : grid_New.f a b s = some (0, 0, ⟨#[]⟩, 2) := by unfold grid_New.f; rw [if_neg hok]
    rw [decide_eq_false hok] at hmay
    have NC := Lib.hid (fun W => grid_New.calls a b s 0 0 ⟨#[]⟩ 2 W hnew)
    have MC := Lib.hid (fun W => rematchref07_May.calls (s.size + 2) a b s false W hmay)
    have FC := Lib.hid (fun W => find_no W 0 0 ⟨#[]⟩ .nilFunc from_ goal near (by intro hh; have h1 := hh.1; unfold offB at h1; have h2 := of_decide_eq_true h1; have hz : (((⟨#[]⟩ : ByteArray).size : Nat) : Int) = 0 := rfl; omega))
    clear hC hmay hnew
    go_enter Try.func3, Try.ntmps3
    go_wp2_with (first
      | (refine (NC.out _).mono ?_; rintro e w1 ⟨rfl, hb⟩; have hba := below_alloc (Below.refl w1.heap.size w1) (.cells #[.int .i64 0, .int .i64 0, .string ⟨#[]⟩] 25); have HB1 := Lib.hid (below_then hb hb.size hba); have HK := Lib.hid (blk_new w1 (.cells #[.int .i64 0, .int .i64 0, .string ⟨#[]⟩] 25)); clear NC hb hba)
      | (refine (MC.out _).mono ?_; rintro e w2 ⟨rfl, hb⟩; have hb := hb.below; have HB2 := Lib.hid (below_then HB1.out HB1.out.size hb); obtain ⟨c0, c1', c2⟩ := cells3 ((hb.block _ (blk_lt HK.out)).trans HK.out); clear MC hb HB1)
      | (refine (FC.out _).mono ?_; rintro e w3 ⟨rfl, hb⟩; have HB3 := Lib.hid (below_then HB2.out HB2.out.size hb); clear FC hb HB2 c0 c1' c2)
      | (refine (WK.out _).mono ?_; rintro e w4 ⟨rfl, hb⟩; have HB4 := Lib.hid (below_then HB3.out HB3.out.size hb); clear hb WK)
      | fail)
    go_ret
    exact ⟨rfl, HB4.out⟩
  · have hO : Okd a b s := ⟨by have := hok.1; omega, hok.2.1, by have := hok.2.2.1; omega, hok.2.2.2.1, hok.2.2.2.2.1⟩
    have hnew : grid_New.f a b s = some (a, b, s, 0) := by unfold grid_New.f; rw [if_pos hok]
    rw [decide_eq_true hok] at hmay
    obtain ⟨R, hRl, hFind, K, hK⟩ := find_both hO (by have := hok.1; omega) from_ goal near hn busy (by omega)
    have NC := Lib.hid (fun W => grid_New.calls a b s a b s 0 W hnew)
    have MC := Lib.hid (fun W => rematchref07_May.calls (s.size + 2) a b s true W hmay)
    have FC := Lib.hid hFind
    have RC := Lib.hid (fun (W : World) (hb : Below w.heap.size w W) => rematchref10_Find.calls K a b s A1 c1 busy from_ goal near R.1 R.2 W (Kd.C_below hC hb) hc1 (hK K (Nat.le_refl _)))
    clear hC hmay hnew hFind hK hO hok
    go_enter Try.func3, Try.ntmps3
    go_wp2_with (first
      | (refine (NC.out _).mono ?_; rintro e w1 ⟨rfl, hb⟩; have hba := below_alloc (Below.refl w1.heap.size w1) (.cells #[.int .i64 a, .int .i64 b, .string s] 25); have HB1 := Lib.hid (below_then hb hb.size hba); have HK := Lib.hid (blk_new w1 (.cells #[.int .i64 a, .int .i64 b, .string s] 25)); clear NC hb hba)
      | (refine (MC.out _).mono ?_; rintro e w2 ⟨rfl, hb⟩; have hb := hb.below; have HB2 := Lib.hid (below_then HB1.out HB1.out.size hb); have HK2 := Lib.hid ((hb.block _ (blk_lt HK.out)).trans HK.out); have mk := run_makeMap (P := Try.prog) 32 w2; clear MC hb HB1 HK)
      | fail)
    have hs : (w2.alloc (.map #[] 0)).heap.size = w2.heap.size + 1 := by simp
    have hba2 := below_alloc (below_alloc (Below.refl w2.heap.size w2) (.map #[] 0)) (.cells #[.map (some w2.heap.size)] 32)
    have HB3 := Lib.hid (below_then HB2.out HB2.out.size hba2)
    have HK3 := Lib.hid ((hba2.block _ (blk_lt HK2.out)).trans HK2.out)
    have hn19 := blk_new (w2.alloc (.map #[] 0)) (.cells #[.map (some w2.heap.size)] 32)
    rw [hs] at hn19
    have H19 := Lib.hid hn19
    have hf0 : (fun _ => none : Int → Option Value) = fm busy 0 := by funext k; unfold fm; simp
    have hm0 := (map_new w2).keep ((below_alloc (Below.refl (w2.alloc (.map #[] 0)).heap.size (w2.alloc (.map #[] 0))) (.cells #[.map (some w2.heap.size)] 32)).block w2.heap.size (by rw [hs]; omega))
    rw [hf0] at hm0
    have HM := Lib.hid hm0
    have hgw := HB2.out.size
    clear hs hba2 hn19 hf0 hm0 HB2 HK2 mk
    generalize w2.heap.size + 1 = k19 at H19 ⊢
    generalize w1.heap.size = kb at HK3 ⊢
    generalize w2.heap.size = gm at HM hgw H19 HK3 HB3 ⊢
    go_loopg [20] (busy.length + 1) (fun kq v20 w' => ∃ i : Nat, v20 = .int .i64 (i : Int) ∧ i + kq = busy.length + 1 ∧ i ≤ busy.length ∧ RowKit.Hid (w'.heap[kb]? = some (.cells #[.int .i64 a, .int .i64 b, .string s] 25 (0, 0))) ∧ RowKit.Hid (w'.heap[k19]? = some (.cells #[.map (some gm)] 32 (0, 0))) ∧ RowKit.Hid (MapIs w' gm (fm busy i)) ∧ RowKit.Hid (Below w.heap.size w w'))
    case atStart => exact ⟨0, rfl, by omega, by omega, HK3, H19, HM, HB3⟩
    case round =>
      clear HK3 H19 HM HB3
      obtain ⟨i, rfl, hik, hil, HK, H19, HM, HB⟩ := hrel
      cases gk with
      | zero => omega
      | succ k1 =>
        by_cases hin : i < busy.length
        · have di : decide ((i : Int) < (busy.length : Int)) = true := decide_eq_true (by omega)
          have c19 : wr.cell? ⟨k19, 0, none⟩ = some (.map (some gm)) := (blk_cell H19.out 0).trans rfl
          obtain ⟨x, hx⟩ : ∃ x, busy[i] = x := ⟨_, rfl⟩
          obtain ⟨ad, e1, hx0⟩ := Kd.at_int (Kd.C_below HCC.out HB.out) (i : Int) (by omega) (by omega)
          have hrd : rd busy (i : Int) = x := by unfold rd; rw [Int.toNat_natCast, List.getD_eq_getElem?_getD, List.getElem?_eq_getElem hin, hx]; rfl
          rw [hrd, Int.toNat_natCast] at hx0
          obtain ⟨W6, hrun, hm6, hbut⟩ := map_put (W := wr.drew) Try.underlying32 (HM.out.keep rfl) x (.bool true)
          rw [← hx, fm_step busy i hin] at hm6
          have HMM := Lib.hid hm6
          have HKB := Lib.hid ((hbut.block kb (HM.out.ne_cells HK.out)).trans HK.out)
          have HK19 := Lib.hid ((hbut.block k19 (HM.out.ne_cells H19.out)).trans H19.out)
          have hbd := below_drew1 HB.out
          have HBB := Lib.hid (show Below w.heap.size w W6 from ⟨hbut.os.trans hbd.os, hbut.tape.trans hbd.tape, hbut.output.trans hbd.output, by rw [hbut.size]; exact hbd.size, fun k hk => (hbut.block k (by omega)).trans (hbd.block k hk)⟩)
          have HA1 := Lib.hid e1
          subst e1
          clear hrd hx hm6 hbut hbd HM HK H19 HB
          go_wp2
          refine wp_region_inv (fun a0 w_0 b a' w' => ∃ x71 x72 x73 x74 x75 : Value, a' = (((((a0.put (some 71) x71).put (some 72) x72).put (some 73) x73).put (some 74) x74).put (some 75) x75) ∧ (b 5 = false → w' = wr.drew) ∧ (b 5 = true → b 0 = true ∧ b 4 = true) ∧ (b 5 = true → w' = W6) ∧ (b 0 = true → x71 = .map (some gm)) ∧ (b 1 = true → x72 = .slice (some ad) busy.length c1) ∧ (b 2 = true → x73 = .int .i64 (i : Int)) ∧ (b 3 = true → x74 = .pointer (some (ad.add i))) ∧ (b 4 = true → x75 = .int .i64 x)) (by kernel_rfl) (by kernel_rfl) ?start ⟨?op0, ?op1, ?op2, ?op3, ?op4, ?op5, trivial⟩ ?done
          case start => exact ⟨_, _, _, _, _, by simp only [Act.put, List.setIfInBounds_toArray, List.set_cons_zero, List.set_cons_succ]; rfl, fun _ => rfl, fun h => absurd h (by decide), fun h => absurd h (by decide), fun h => absurd h (by decide), fun h => absurd h (by decide), fun h => absurd h (by decide), fun h => absurd h (by decide), fun h => absurd h (by decide)⟩
          case op0 =>
            rintro bb _ w' ⟨x71, x72, x73, x74, x75, rfl, A0, Q5, F0, p71, p72, p73, p74, p75⟩ hb hd K hK
            simp only [Act.put, List.setIfInBounds_toArray, List.set_cons_zero, List.set_cons_succ]
            rw [if_pos (by rfl)]
            have h5 : bb 5 = false := by cases h : bb 5 with | false => rfl | true => exact absurd ((Q5 h).1) (by rw [hb]; decide)
            obtain rfl := A0 h5
            go_simp
            exact hK _ _ ⟨.map (some gm), x72, x73, x74, x75, by simp only [Act.put, List.setIfInBounds_toArray, List.set_cons_zero, List.set_cons_succ], fun h => A0 (by simpa [upb] using h), fun h => by have h4 := Q5 (by simpa [upb] using h); simp [upb, h4.1, h4.2], fun h => F0 (by simpa [upb] using h), fun _ => rfl, fun h => p72 (by simpa [upb] using h), fun h => p73 (by simpa [upb] using h), fun h => p74 (by simpa [upb] using h), fun h => p75 (by simpa [upb] using h)⟩
          case op1 =>
            rintro bb _ w' ⟨x71, x72, x73, x74, x75, rfl, A0, Q5, F0, p71, p72, p73, p74, p75⟩ hb hd K hK
            simp only [Act.put, List.setIfInBounds_toArray, List.set_cons_zero, List.set_cons_succ]
            rw [if_pos (by rfl)]
            go_simp
            exact hK _ _ ⟨x71, .slice (some ad) busy.length c1, x73, x74, x75, by simp only [Act.put, List.setIfInBounds_toArray, List.set_cons_zero, List.set_cons_succ], fun h => A0 (by simpa [upb] using h), fun h => by have h4 := Q5 (by simpa [upb] using h); simp [upb, h4.1, h4.2], fun h => F0 (by simpa [upb] using h), fun h => p71 (by simpa [upb] using h), fun _ => rfl, fun h => p73 (by simpa [upb] using h), fun h => p74 (by simpa [upb] using h), fun h => p75 (by simpa [upb] using h)⟩
          case op2 =>
            rintro bb _ w' ⟨x71, x72, x73, x74, x75, rfl, A0, Q5, F0, p71, p72, p73, p74, p75⟩ hb hd K hK
            simp only [Act.put, List.setIfInBounds_toArray, List.set_cons_zero, List.set_cons_succ]
            rw [if_pos (by rfl)]
            go_simp
            exact hK _ _ ⟨x71, x72, .int .i64 (i : Int), x74, x75, by simp only [Act.put, List.setIfInBounds_toArray, List.set_cons_zero, List.set_cons_succ], fun h => A0 (by simpa [upb] using h), fun h => by have h4 := Q5 (by simpa [upb] using h); simp [upb, h4.1, h4.2], fun h => F0 (by simpa [upb] using h), fun h => p71 (by simpa [upb] using h), fun h => p72 (by simpa [upb] using h), fun _ => rfl, fun h => p74 (by simpa [upb] using h), fun h => p75 (by simpa [upb] using h)⟩
          case op3 =>
            rintro bb _ w' ⟨x71, x72, x73, x74, x75, rfl, A0, Q5, F0, p71, p72, p73, p74, p75⟩ hb hd K hK
            simp only [Act.put, List.setIfInBounds_toArray, List.set_cons_zero, List.set_cons_succ]
            obtain rfl := (p72 (hd 1 (by decide))).symm
            obtain rfl := (p73 (hd 2 (by decide))).symm
            rw [if_pos (by rfl)]
            go_simp
            exact hK _ _ ⟨x71, .slice (some ad) busy.length c1, .int .i64 (i : Int), .pointer (some (ad.add i)), x75, by simp only [Act.put, List.setIfInBounds_toArray, List.set_cons_zero, List.set_cons_succ], fun h => A0 (by simpa [upb] using h), fun h => by have h4 := Q5 (by simpa [upb] using h); simp [upb, h4.1, h4.2], fun h => F0 (by simpa [upb] using h), fun h => p71 (by simpa [upb] using h), fun _ => rfl, fun _ => rfl, fun _ => rfl, fun h => p75 (by simpa [upb] using h)⟩
          case op4 =>
            rintro bb _ w' ⟨x71, x72, x73, x74, x75, rfl, A0, Q5, F0, p71, p72, p73, p74, p75⟩ hb hd K hK
            simp only [Act.put, List.setIfInBounds_toArray, List.set_cons_zero, List.set_cons_succ]
            obtain rfl := (p74 (hd 3 (by decide))).symm
            rw [if_pos (by rfl)]
            have h5 : bb 5 = false := by cases h : bb 5 with | false => rfl | true => exact absurd ((Q5 h).2) (by rw [hb]; decide)
            obtain rfl := A0 h5
            go_simp
            exact hK _ _ ⟨x71, x72, x73, .pointer (some (ad.add i)), .int .i64 x, by simp only [Act.put, List.setIfInBounds_toArray, List.set_cons_zero, List.set_cons_succ], fun h => A0 (by simpa [upb] using h), fun h => by have h4 := Q5 (by simpa [upb] using h); simp [upb, h4.1, h4.2], fun h => F0 (by simpa [upb] using h), fun h => p71 (by simpa [upb] using h), fun h => p72 (by simpa [upb] using h), fun h => p73 (by simpa [upb] using h), fun _ => rfl, fun _ => rfl⟩
          case op5 =>
            rintro bb _ w' ⟨x71, x72, x73, x74, x75, rfl, A0, Q5, F0, p71, p72, p73, p74, p75⟩ hb hd K hK
            simp only [Act.put, List.setIfInBounds_toArray, List.set_cons_zero, List.set_cons_succ]
            obtain rfl := (p71 (hd 0 (by decide))).symm
            obtain rfl := (p75 (hd 4 (by decide))).symm
            rw [if_pos (by rfl)]
            obtain rfl := A0 hb
            go_simp
            exact hK _ _ ⟨.map (some gm), x72, x73, x74, .int .i64 x, by simp only [Act.put, List.setIfInBounds_toArray, List.set_cons_zero, List.set_cons_succ], fun h => absurd h (by simp [upb]), fun _ => ⟨by have := hd 0 (by decide); simp [upb, this], by have := hd 4 (by decide); simp [upb, this]⟩, fun _ => rfl, fun _ => rfl, fun h => p72 (by simpa [upb] using h), fun h => p73 (by simpa [upb] using h), fun h => p74 (by simpa [upb] using h), fun _ => rfl⟩
          case done =>
            rintro bb _ w' hb ⟨x71, x72, x73, x74, x75, rfl, A0, Q5, F0, p71, p72, p73, p74, p75⟩
            obtain rfl := (p71 (hb 0 (by decide))).symm
            obtain rfl := (p72 (hb 1 (by decide))).symm
            obtain rfl := (p73 (hb 2 (by decide))).symm
            obtain rfl := (p74 (hb 3 (by decide))).symm
            obtain rfl := (p75 (hb 4 (by decide))).symm
            simp only [Act.put, List.setIfInBounds_toArray, List.set_cons_zero, List.set_cons_succ]
            obtain rfl := F0 (hb 5 (by decide))
            clear A0 Q5 F0 hb hrun
            go_wp2_with fail
            go_roundg k1
            case measure => omega
            case rel => exact ⟨i + 1, by push_cast; rfl, by omega, by omega, HKB, HK19, HMM, HBB⟩
        · have di : decide ((i : Int) < (busy.length : Int)) = false := decide_eq_false (by omega)
          have hfull : ∀ t, (fm busy i t).getD (.bool false) = .bool (decide (t ∈ busy)) := fun t => by
            unfold fm
            rw [List.take_of_length_le (by omega)]
            by_cases ht : t ∈ busy
            · rw [if_pos ht]; simp [ht]
            · rw [if_neg ht]; simp [ht]
          have c19 : wr.cell? ⟨k19, 0, none⟩ = some (.map (some gm)) := (blk_cell H19.out 0).trans rfl
          obtain ⟨c0, c1', c2⟩ := cells3 HK.out
          have F2 := Lib.hid (FC.out wr (.func (.func 9) #[] #[.pointer (some ⟨k19, 0, none⟩)]) (.inr (.inr ⟨⟨k19, 0, none⟩, gm, fm busy i, rfl, c19, HM.out, hfull⟩)))
          clear FC hfull HM H19 HK
          obtain ⟨⟨r1, r2⟩, hR⟩ : ∃ R', R = R' := ⟨_, rfl⟩
          subst hR
          simp only at hRl
          go_wp2_with (first
            | (refine F2.out.mono ?_; rintro e w5 ⟨v5, rfl, hR, hb⟩; have HB5 := Lib.hid (below_then HB.out HB.out.size hb); obtain ⟨A5, n5, hv5⟩ := Kd.R_slice hR; subst hv5; have HR5 := Lib.hid hR; have R2 := Lib.hid (RC.out w5 HB5.out); clear F2 hR hb RC HB c0 c1' c2 c19)
            | (refine R2.out.mono ?_; rintro e w6 ⟨v6, rfl, hR, hb⟩; have HB6 := Lib.hid (below_then HB5.out HB5.out.size hb); obtain ⟨A6, n6, hv6⟩ := Kd.R_slice hR; subst hv6; have HR6 := Lib.hid (Kd.R_reads' hR).2.2; have HR56 := Lib.hid (Kd.R_reads' (Kd.R_below HR5.out hb)).2.2; clear R2 hR hb HR5 HB5)
            | fail)
          go_loopg [25] (r1.length + 1) (fun kq v25 w' => ∃ m : Nat, v25 = .int .i64 (m : Int) ∧ m + kq = r1.length + 1 ∧ m ≤ r1.length ∧ RowKit.Hid (Below w.heap.size w w') ∧ RowKit.Hid (Kd.C (Kd.int .i64) w' A6 r1.length r1) ∧ RowKit.Hid (Kd.C (Kd.int .i64) w' A5 r1.length r1))
          case atStart => exact ⟨0, rfl, by omega, by omega, HB6, HR6, HR56⟩
          case round =>
            clear HB6 HR6 HR56
            obtain ⟨m, rfl, hmk, hml, HB6, HR6, HR56⟩ := hrel
            cases gk with
            | zero => omega
            | succ k2 =>
              by_cases hmn : m < r1.length
              · have dm : decide ((m : Int) < (r1.length : Int)) = true := decide_eq_true (by omega)
                obtain ⟨z, hz⟩ : ∃ z, rd r1 (m : Int) = z := ⟨_, rfl⟩
                obtain ⟨ad5, e5, hx5⟩ := Kd.at_int HR56.out (m : Int) (by omega) (by omega)
                obtain ⟨ad6, e6, hx6⟩ := Kd.at_int HR6.out (m : Int) (by omega) (by omega)
                rw [hz, Int.toNat_natCast] at hx5 hx6
                clear hz
                have HA5 := Lib.hid e5
                have HA6 := Lib.hid e6
                subst e5 e6
                go_wp2
                go_quiet (fail)
                try go_wp2
                go_roundg k2
                case measure => omega
                case rel => exact ⟨m + 1, by push_cast; rfl, by omega, by omega, by first | exact HB6 | exact Lib.hid (below_drew1 HB6.out) | exact Lib.hid (pw_below_drewN HB6.out _), by first | exact HR6 | exact Lib.hid (Kd.C_drewN HR6.out _), by first | exact HR56 | exact Lib.hid (Kd.C_drewN HR56.out _)⟩
              · have dm : decide ((m : Int) < (r1.length : Int)) = false := decide_eq_false (by omega)
                go_wp2_with (first | (refine (WK.out _).mono ?_; rintro e w7 ⟨rfl, hb⟩; have HB7 := Lib.hid (below_then HB6.out HB6.out.size hb); clear hb WK) | fail)
                go_ret
                exact ⟨rfl, HB7.out⟩
end Go.Proofs.Ytkbimhngbdbgdaa.PPathFinds
