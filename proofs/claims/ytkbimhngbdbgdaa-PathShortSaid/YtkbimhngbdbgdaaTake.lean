/- Path: the next open tile is taken (search.take). No condition. -/
import Derived.Test.YtkbimhngbdbgdaaComes
namespace Go.Proofs.Ytkbimhngbdbgdaa.PPathFinds
open Go.RowKit Go.Proofs.YtkbimhngbdbgdaaW.PrintWords Go.Proofs.YtkbimhngbdbgdaaW.PrintLast Go.Proofs.YtkbimhngbdbgdaaW.PrintMore
attribute [local go_sem] max2_int min2_int max_two min_two max_three min_three max_four min_four   -- for this text's walks alone
set_option linter.unusedVariables false
set_option linter.unusedSimpArgs false
set_option maxHeartbeats 8000000
set_option maxRecDepth 20000
def tk : Nat → List S51 → (Int → Option (Int × Int × Bool)) → Bool × S51 × List S51 × (Int → Option (Int × Int × Bool))
  | 0, l, F => (false, z51, l, F)
  | k + 1, l, F => if l.length = 0 then (false, z51, l, F) else
    if ((F ((hp_pop l).getD (l.length - 1) z51).f2).getD (0, 0, false)).2.2 = true then tk k ((hp_pop l).take (l.length - 1)) F else
      (true, (hp_pop l).getD (l.length - 1) z51, (hp_pop l).take (l.length - 1), sUp F ((hp_pop l).getD (l.length - 1) z51).f2 (((F ((hp_pop l).getD (l.length - 1) z51).f2).getD (0, 0, false)).1, ((F ((hp_pop l).getD (l.length - 1) z51).f2).getD (0, 0, false)).2.1, true))
theorem tk_fin {W3 w' : World} {k5 : Nat} (hB : Below W3.heap.size W3 w') (hk5 : W3.heap.size ≤ k5) (hb5 : w'.heap[k5]? = some (.cells #[.int .i64 0, .int .i64 0, .bool false] 55 (0, 0))) (a b : Int) (c : Bool) :
    ∃ k, (Value.pointer (some ⟨k5, 0, none⟩)) = .pointer (some ⟨k, 0, none⟩) ∧ W3.heap.size ≤ k ∧ Below W3.heap.size W3 (((w'.setCell ⟨k5, 0, none⟩ (.int .i64 a)).setCell ⟨k5, 1, none⟩ (.int .i64 b)).setCell ⟨k5, 2, none⟩ (.bool c)) ∧
      (((w'.setCell ⟨k5, 0, none⟩ (.int .i64 a)).setCell ⟨k5, 1, none⟩ (.int .i64 b)).setCell ⟨k5, 2, none⟩ (.bool c)).heap[k]? = some (.cells #[.int .i64 a, .int .i64 b, .bool c] 55 (0, 0)) :=
  ⟨k5, rfl, hk5, ((hB.setCell hk5 _).setCell hk5 _).setCell hk5 _, blk_set (blk_set (blk_set hb5 0 _) 1 _) 2 _⟩
theorem Hp.ne_new {w W : World} {g : Nat} {q : SP} {v : Value} {l : List S51} (h : Hp w W g q v l) {k : Nat} (hk : W.heap.size ≤ k) : some k ≠ v.ownBlock := fun e => by
  obtain ⟨_, ho⟩ := Kd.R_own h.own
  have := own_lt ho k e.symm
  omega
theorem Ss.far {w W : World} {g : Nat} {q : SP} {v : Value} {l : List S51} {F : Int → Option (Int × Int × Bool)} (h : Ss w W g q v l F) {k : Nat} (i : Nat) (u : Value) (hk : k ≠ g) (hm : k ≠ q.gm) (hr : some k ≠ v.ownBlock) (hb : w.heap.size ≤ k) : Ss w (W.setCell ⟨k, i, none⟩ u) g q v l F := by
  refine ⟨⟨h.hp.bel.setCell hb _, blk_far h.hp.blk (p := ⟨k, i, none⟩) (fun e => hk e.symm) u, h.hp.gb, ?_⟩, h.map.keep (Below.heap_setCell W ⟨k, i, none⟩ u q.gm (fun e => hm e.symm)), h.gmb⟩
  exact Kd.R_mono (Kd.R_far (p := ⟨k, i, none⟩) (R51_ok h.hp.own) (fun j hj e => hr (by rw [hj, e])) u) (fun _ _ => trivial)
theorem Fr.set {W W1 : World} {g gm : Nat} {row : Option Nat} (h : Fr W W1 g gm row) {k : Nat} (hk : W.heap.size ≤ k) (i : Nat) (u : Value) : Fr W (W1.setCell ⟨k, i, none⟩ u) g gm row :=
  ⟨by simpa [World.setCell] using h.1, fun j hj hg hm hr => (Below.heap_setCell W1 ⟨k, i, none⟩ u j (show j ≠ k by omega)).trans (h.2 j hj hg hm hr)⟩
theorem take_calls (w W : World) (g : Nat) (q : SP) (v : Value) (l : List S51) (F : Int → Option (Int × Int × Bool)) (hl : l.length ≤ 1000000) (H : Ss w W g q v l F) :
    Calls Try.prog 18 #[.pointer (some ⟨g, 0, none⟩)] W fun e W' => e = .returned (.tuple #[.agg #[.int .i64 (tk (l.length + 1) l F).2.1.f0, .int .i64 (tk (l.length + 1) l F).2.1.f1, .int .i64 (tk (l.length + 1) l F).2.1.f2], .bool (tk (l.length + 1) l F).1]) ∧
      ∃ v', Ss w W' g q v' (tk (l.length + 1) l F).2.2.1 (tk (l.length + 1) l F).2.2.2 ∧ Fr W W' g q.gm v.ownBlock ∧ Mv W v v' := by
  obtain ⟨T, hT⟩ : ∃ T, tk (l.length + 1) l F = T := ⟨_, rfl⟩
  rw [hT]
  obtain ⟨k2, hk2⟩ : ∃ k2, W.heap.size = k2 := ⟨_, rfl⟩
  have hba := below_alloc (Below.refl W.heap.size W) (.cells #[.int .i64 0, .int .i64 0, .int .i64 0] 51)
  have HS0 := Lib.hid (H.next hba)
  have HFr0 := Lib.hid (Fr.of_below hba g q.gm v.ownBlock)
  have hn2 := blk_new W (.cells #[.int .i64 0, .int .i64 0, .int .i64 0] 51)
  rw [hk2] at hn2
  have H2 := Lib.hid hn2
  have hvlt : ∀ b, v.ownBlock = some b → b < W.heap.size := fun b hb => by obtain ⟨_, ho⟩ := Kd.R_own H.hp.own; exact own_lt ho b hb
  have hn20 : some k2 ≠ v.ownBlock := fun e => by have := hvlt k2 e.symm; omega
  have hgk : g ≠ k2 := by have := blk_lt H.hp.blk; omega
  have hmk : q.gm ≠ k2 := by have := H.map.lt; omega
  have HWS := Lib.hid H.hp.bel.size
  have HT := Lib.hid hT
  have HK2 := Lib.hid hk2
  clear H hba hn2 hT hvlt
  go_enter Try.func18, Try.ntmps18
  go_wp2
  go_loopg [6] (l.length + 1) (fun kq v6 w' => ∃ (v1 : Value) (l1 : List S51) (F1 : Int → Option (Int × Int × Bool)), l1.length < kq ∧ kq ≤ l.length + 1 ∧ RowKit.Hid (tk kq l1 F1 = T) ∧ RowKit.Hid (Ss w w' g q v1 l1 F1) ∧ RowKit.Hid (Fr W w' g q.gm v.ownBlock) ∧ RowKit.Hid (Mv W v v1) ∧
    RowKit.Hid (w'.heap[k2]? = some (.cells #[.int .i64 0, .int .i64 0, .int .i64 0] 51 (0, 0))) ∧ some k2 ≠ v1.ownBlock)
  case atStart => exact ⟨v, l, F, by omega, by omega, HT, HS0, HFr0, Lib.hid (Mv.refl _ _), H2, hn20⟩
  case round =>
    clear HS0 HFr0 H2 HT hn20
    obtain ⟨v1, l1, F1, hlk, hkl, HE, HS, HF, HM, H2, hn2⟩ := hrel
    have hW2 : W.heap.size ≤ k2 := by rw [HK2.out]; exact Nat.le_refl _
    have hwk : w.heap.size ≤ k2 := Nat.le_trans HWS.out hW2
    have hc6 := HS.out.hp.cell
    have LC := len_calls HS.out.hp
    cases gk with
    | zero => omega
    | succ k1 =>
      have hE := HE.out
      unfold tk at hE
      clear HE
      by_cases hl0 : l1.length = 0
      · rw [if_pos hl0] at hE
        rw [hl0] at LC
        replace LC := Lib.hid LC
        subst hE
        go_wp2_with (first | (refine LC.out.mono ?_; rintro e W1 ⟨rfl, hb1⟩; have HS1 := Lib.hid (HS.out.next hb1); have HF1 := Lib.hid (Fr.trans HF.out (Fr.of_below hb1 g q.gm v1.ownBlock) HM.out); have h2 := (hb1.block k2 (blk_lt H2.out)).trans H2.out; have H2' := Lib.hid h2; have c0 : W1.cell? ⟨k2, 0, none⟩ = some (.int .i64 0) := (blk_cell h2 0).trans rfl; have c1 : W1.cell? ⟨k2, 1, none⟩ = some (.int .i64 0) := (blk_cell h2 1).trans rfl; have c2 : W1.cell? ⟨k2, 2, none⟩ = some (.int .i64 0) := (blk_cell h2 2).trans rfl; have f0 : W1.frozen? ⟨k2, 0, none⟩ = false := blk_frozen h2 0; have f1 : W1.frozen? ⟨k2, 1, none⟩ = false := blk_frozen h2 1; have f2 : W1.frozen? ⟨k2, 2, none⟩ = false := blk_frozen h2 2; clear LC hb1 hc6 h2) | fail)
        refine bodyPost_ret (results_list (rs := [.cell 2 51, .tmp 3]) rfl (by simp) (.cell k2 51 #[.int .i64 0, .int .i64 0, .int .i64 0] (0, 0) _ rfl ((blk_set (blk_set (blk_set H2'.out 0 _) 1 _) 2 _).trans rfl) Try.underlying51 rfl rfl (.tmp .nil))) rfl ?_
        exact ⟨rfl, v1, (((HS1.out.far 0 _ (fun e => hgk e.symm) (fun e => hmk e.symm) hn2 hwk).far 1 _ (fun e => hgk e.symm) (fun e => hmk e.symm) hn2 hwk).far 2 _ (fun e => hgk e.symm) (fun e => hmk e.symm) hn2 hwk), ((HF1.out.set hW2 0 _).set hW2 1 _).set hW2 2 _, HM.out⟩
      · obtain ⟨n, hn⟩ : ∃ n, l1.length = n + 1 := ⟨l1.length - 1, by omega⟩
        rw [if_neg hl0, hn, Nat.add_sub_cancel] at hE
        rw [hn] at LC
        replace LC := Lib.hid LC
        obtain ⟨l2, hl2⟩ : ∃ l2, (hp_pop l1).take n = l2 := ⟨_, rfl⟩
        have hl2n : l2.length = n := by rw [← hl2, List.length_take, hp_pop_len]; omega
        have PC0 := fun (W1 : World) (h : Hp w W1 g q v1 l1) => heap_Pop_calls w W1 g q v1 l1 n hn (by omega) h
        rw [hl2] at PC0 hE
        have hrd : rd_T51 (hp_pop l1) n = (hp_pop l1).getD n z51 := by unfold rd_T51; rw [Int.toNat_natCast]
        rw [hrd] at PC0
        obtain ⟨⟨x0, x1, x2⟩, hx⟩ : ∃ x : S51, (hp_pop l1).getD n z51 = x := ⟨_, rfl⟩
        rw [hx] at PC0 hE
        simp only at PC0 hE
        obtain ⟨y0, y1, y2, hz⟩ : ∃ a b c, (F1 x2).getD (0, 0, false) = (a, b, c) := ⟨_, _, _, rfl⟩
        rw [hz] at hE
        simp only at hE
        have hz := Lib.hid hz
        have PCH := Lib.hid PC0
        clear PC0 hrd hx hl2 hl0
        have HE := Lib.hid hE
        clear hE
        have hta : ∀ w' : World, (Instr.typeAssert (.iface 51 (.agg #[.int .i64 x0, .int .i64 x1, .int .i64 x2])) 20 51 false).run Try.prog w' = .ok (.agg #[.int .i64 x0, .int .i64 x1, .int .i64 x2]) w' := fun _ => by kernel_rfl
        go_wp2_with (first
          | (refine LC.out.mono ?_; rintro e W1 ⟨rfl, hb1⟩; have HS1 := Lib.hid (HS.out.next hb1); have HF1 := Lib.hid (Fr.trans HF.out (Fr.of_below hb1 g q.gm v1.ownBlock) HM.out); have H21 := Lib.hid ((hb1.block k2 (blk_lt H2.out)).trans H2.out); have PC := Lib.hid (PCH.out W1 HS1.out.hp); clear LC hb1 hc6 PCH HS HF H2)
          | (refine PC.out.mono ?_; rintro e W2 ⟨rfl, v2, hp2, hk_2, hm2⟩; have HS2 := Lib.hid (HS1.out.push hp2 hk_2); have HF2 := Lib.hid (Fr.trans HF1.out (Fr.of_keep hk_2 q.gm) HM.out); have HM2 := Lib.hid (Mv.trans HM.out hm2 HF1.out.1); have hn2' := hm2.ne (blk_lt H21.out) hn2; have H22 := Lib.hid (hk_2.blk H21.out (fun e => hgk e.symm) hn2); clear PC hp2 hk_2 hm2 HS1 HF1 H21 hn2 HM)
          | fail)
        try simp only [Bool.false_eq_true, ↓reduceIte]
        obtain ⟨k4, hk4⟩ : ∃ k4, W2.heap.size = k4 := ⟨_, rfl⟩
        have hba := below_alloc (Below.refl W2.heap.size W2) (.cells #[.int .i64 x0, .int .i64 x1, .int .i64 x2] 51)
        have hb4 := blk_new W2 (.cells #[.int .i64 x0, .int .i64 x1, .int .i64 x2] 51)
        obtain ⟨W3, hW3⟩ : ∃ W3, W2.alloc (.cells #[.int .i64 x0, .int .i64 x1, .int .i64 x2] 51) = W3 := ⟨_, rfl⟩
        rw [hk4] at hb4 ⊢
        rw [hW3] at hb4 hba ⊢
        have HS3 := Lib.hid (HS2.out.next hba)
        have HF3 := Lib.hid (Fr.trans HF2.out (Fr.of_below hba g q.gm v2.ownBlock) HM2.out)
        have H23 := Lib.hid ((hba.block k2 (blk_lt H22.out)).trans H22.out)
        have hn4 : some k4 ≠ v2.ownBlock := HS2.out.hp.ne_new (by omega)
        have hg4 : k4 ≠ g := by have := blk_lt HS2.out.hp.blk; omega
        have hm4 : k4 ≠ q.gm := by have := HS2.out.map.lt; omega
        have H4 := Lib.hid hb4
        clear HS2 HF2 H22 hba hb4 hW3 hk4
        refine wp_region_inv (fun a0 w_0 b a' w' => ∃ x18 x19 x20 x21 x22 x23 x24 x5 : Value, a' = ((((((((a0.put (some 18) x18).put (some 19) x19).put (some 20) x20).put (some 21) x21).put (some 22) x22).put (some 23) x23).put (some 24) x24).put (some 5) x5) ∧ (b 8 = false → Below W3.heap.size W3 w') ∧ (b 7 = true → b 8 = false → ∃ k5, x5 = .pointer (some ⟨k5, 0, none⟩) ∧ W3.heap.size ≤ k5 ∧ w'.heap[k5]? = some (.cells #[.int .i64 0, .int .i64 0, .bool false] 55 (0, 0))) ∧ (b 6 = true → b 3 = true ∧ b 5 = true) ∧ (b 8 = true → b 6 = true ∧ b 7 = true) ∧ (b 8 = true → ∃ k5, x5 = .pointer (some ⟨k5, 0, none⟩) ∧ W3.heap.size ≤ k5 ∧ Below W3.heap.size W3 w' ∧ w'.heap[k5]? = some (.cells #[.int .i64 y0, .int .i64 y1, .bool y2] 55 (0, 0))) ∧ (b 0 = true → x18 = .pointer (some ⟨g, 0, none⟩)) ∧ (b 1 = true → x19 = .pointer (some ⟨g, 0, none⟩)) ∧ (b 2 = true → x20 = .pointer (some ⟨g, 7, none⟩)) ∧ (b 3 = true → x21 = .map (some q.gm)) ∧ (b 4 = true → x22 = .pointer (some ⟨k4, 2, none⟩)) ∧ (b 5 = true → x23 = .int .i64 x2) ∧ (b 6 = true → x24 = .agg #[.int .i64 y0, .int .i64 y1, .bool y2])) (by kernel_rfl) (by kernel_rfl) ?start ⟨?op0, ?op1, ?op2, ?op3, ?op4, ?op5, ?op6, ?op7, ?op8, trivial⟩ ?done
        case start => exact ⟨_, _, _, _, _, _, _, _, by simp only [Act.put, List.setIfInBounds_toArray, List.set_cons_zero, List.set_cons_succ]; rfl, fun _ => below_drew1 (Below.refl _ _), fun h => absurd h (by decide), fun h => absurd h (by decide), fun h => absurd h (by decide), fun h => absurd h (by decide), fun h => absurd h (by decide), fun h => absurd h (by decide), fun h => absurd h (by decide), fun h => absurd h (by decide), fun h => absurd h (by decide), fun h => absurd h (by decide), fun h => absurd h (by decide)⟩
        case op0 =>
          rintro bb _ w' ⟨x18, x19, x20, x21, x22, x23, x24, x5, rfl, B, A1, Q6, Q8, F0, p18, p19, p20, p21, p22, p23, p24⟩ hb hd K hK
          simp only [Act.put, List.setIfInBounds_toArray, List.set_cons_zero, List.set_cons_succ]
          rw [if_pos (by rfl)]
          go_simp
          exact hK _ _ ⟨.pointer (some ⟨g, 0, none⟩), x19, x20, x21, x22, x23, x24, x5, by simp only [Act.put, List.setIfInBounds_toArray, List.set_cons_zero, List.set_cons_succ], fun h => B (by simpa [upb] using h), fun h h2 => A1 (by simpa [upb] using h) (by simpa [upb] using h2), fun h => by have h4 := Q6 (by simpa [upb] using h); simp [upb, h4.1, h4.2], fun h => by have h4 := Q8 (by simpa [upb] using h); simp [upb, h4.1, h4.2], fun h => F0 (by simpa [upb] using h), fun _ => rfl, fun h => p19 (by simpa [upb] using h), fun h => p20 (by simpa [upb] using h), fun h => p21 (by simpa [upb] using h), fun h => p22 (by simpa [upb] using h), fun h => p23 (by simpa [upb] using h), fun h => p24 (by simpa [upb] using h)⟩
        case op1 =>
          rintro bb _ w' ⟨x18, x19, x20, x21, x22, x23, x24, x5, rfl, B, A1, Q6, Q8, F0, p18, p19, p20, p21, p22, p23, p24⟩ hb hd K hK
          simp only [Act.put, List.setIfInBounds_toArray, List.set_cons_zero, List.set_cons_succ]
          obtain rfl := (p18 (hd 0 (by decide))).symm
          rw [if_pos (by rfl)]
          go_simp
          exact hK _ _ ⟨.pointer (some ⟨g, 0, none⟩), .pointer (some ⟨g, 0, none⟩), x20, x21, x22, x23, x24, x5, by simp only [Act.put, List.setIfInBounds_toArray, List.set_cons_zero, List.set_cons_succ], fun h => B (by simpa [upb] using h), fun h h2 => A1 (by simpa [upb] using h) (by simpa [upb] using h2), fun h => by have h4 := Q6 (by simpa [upb] using h); simp [upb, h4.1, h4.2], fun h => by have h4 := Q8 (by simpa [upb] using h); simp [upb, h4.1, h4.2], fun h => F0 (by simpa [upb] using h), fun _ => rfl, fun _ => rfl, fun h => p20 (by simpa [upb] using h), fun h => p21 (by simpa [upb] using h), fun h => p22 (by simpa [upb] using h), fun h => p23 (by simpa [upb] using h), fun h => p24 (by simpa [upb] using h)⟩
        case op2 =>
          rintro bb _ w' ⟨x18, x19, x20, x21, x22, x23, x24, x5, rfl, B, A1, Q6, Q8, F0, p18, p19, p20, p21, p22, p23, p24⟩ hb hd K hK
          simp only [Act.put, List.setIfInBounds_toArray, List.set_cons_zero, List.set_cons_succ]
          obtain rfl := (p19 (hd 1 (by decide))).symm
          rw [if_pos (by rfl)]
          go_simp
          exact hK _ _ ⟨x18, .pointer (some ⟨g, 0, none⟩), .pointer (some ⟨g, 7, none⟩), x21, x22, x23, x24, x5, by simp only [Act.put, List.setIfInBounds_toArray, List.set_cons_zero, List.set_cons_succ], fun h => B (by simpa [upb] using h), fun h h2 => A1 (by simpa [upb] using h) (by simpa [upb] using h2), fun h => by have h4 := Q6 (by simpa [upb] using h); simp [upb, h4.1, h4.2], fun h => by have h4 := Q8 (by simpa [upb] using h); simp [upb, h4.1, h4.2], fun h => F0 (by simpa [upb] using h), fun h => p18 (by simpa [upb] using h), fun _ => rfl, fun _ => rfl, fun h => p21 (by simpa [upb] using h), fun h => p22 (by simpa [upb] using h), fun h => p23 (by simpa [upb] using h), fun h => p24 (by simpa [upb] using h)⟩
        case op3 =>
          rintro bb _ w' ⟨x18, x19, x20, x21, x22, x23, x24, x5, rfl, B, A1, Q6, Q8, F0, p18, p19, p20, p21, p22, p23, p24⟩ hb hd K hK
          simp only [Act.put, List.setIfInBounds_toArray, List.set_cons_zero, List.set_cons_succ]
          obtain rfl := (p20 (hd 2 (by decide))).symm
          rw [if_pos (by rfl)]
          have h8 : bb 8 = false := by cases h : bb 8 with | false => rfl | true => exact absurd ((Q6 (Q8 h).1).1) (by rw [hb]; decide)
          have hc : w'.cell? ⟨g, 7, none⟩ = some (.map (some q.gm)) := (blk_cell (HS3.out.next (B h8)).hp.blk 7).trans rfl
          go_simp
          exact hK _ _ ⟨x18, x19, .pointer (some ⟨g, 7, none⟩), .map (some q.gm), x22, x23, x24, x5, by simp only [Act.put, List.setIfInBounds_toArray, List.set_cons_zero, List.set_cons_succ], fun h => B (by simpa [upb] using h), fun h h2 => A1 (by simpa [upb] using h) (by simpa [upb] using h2), fun h => by have h4 := Q6 (by simpa [upb] using h); simp [upb, h4.1, h4.2], fun h => by have h4 := Q8 (by simpa [upb] using h); simp [upb, h4.1, h4.2], fun h => F0 (by simpa [upb] using h), fun h => p18 (by simpa [upb] using h), fun h => p19 (by simpa [upb] using h), fun _ => rfl, fun _ => rfl, fun h => p22 (by simpa [upb] using h), fun h => p23 (by simpa [upb] using h), fun h => p24 (by simpa [upb] using h)⟩
        case op4 =>
          rintro bb _ w' ⟨x18, x19, x20, x21, x22, x23, x24, x5, rfl, B, A1, Q6, Q8, F0, p18, p19, p20, p21, p22, p23, p24⟩ hb hd K hK
          simp only [Act.put, List.setIfInBounds_toArray, List.set_cons_zero, List.set_cons_succ]
          rw [if_pos (by rfl)]
          go_simp
          exact hK _ _ ⟨x18, x19, x20, x21, .pointer (some ⟨k4, 2, none⟩), x23, x24, x5, by simp only [Act.put, List.setIfInBounds_toArray, List.set_cons_zero, List.set_cons_succ], fun h => B (by simpa [upb] using h), fun h h2 => A1 (by simpa [upb] using h) (by simpa [upb] using h2), fun h => by have h4 := Q6 (by simpa [upb] using h); simp [upb, h4.1, h4.2], fun h => by have h4 := Q8 (by simpa [upb] using h); simp [upb, h4.1, h4.2], fun h => F0 (by simpa [upb] using h), fun h => p18 (by simpa [upb] using h), fun h => p19 (by simpa [upb] using h), fun h => p20 (by simpa [upb] using h), fun h => p21 (by simpa [upb] using h), fun _ => rfl, fun h => p23 (by simpa [upb] using h), fun h => p24 (by simpa [upb] using h)⟩
        case op5 =>
          rintro bb _ w' ⟨x18, x19, x20, x21, x22, x23, x24, x5, rfl, B, A1, Q6, Q8, F0, p18, p19, p20, p21, p22, p23, p24⟩ hb hd K hK
          simp only [Act.put, List.setIfInBounds_toArray, List.set_cons_zero, List.set_cons_succ]
          obtain rfl := (p22 (hd 4 (by decide))).symm
          rw [if_pos (by rfl)]
          have h8 : bb 8 = false := by cases h : bb 8 with | false => rfl | true => exact absurd ((Q6 (Q8 h).1).2) (by rw [hb]; decide)
          have hc : w'.cell? ⟨k4, 2, none⟩ = some (.int .i64 x2) := (blk_cell (((B h8).block k4 (blk_lt H4.out)).trans H4.out) 2).trans rfl
          go_simp
          exact hK _ _ ⟨x18, x19, x20, x21, .pointer (some ⟨k4, 2, none⟩), .int .i64 x2, x24, x5, by simp only [Act.put, List.setIfInBounds_toArray, List.set_cons_zero, List.set_cons_succ], fun h => B (by simpa [upb] using h), fun h h2 => A1 (by simpa [upb] using h) (by simpa [upb] using h2), fun h => by have h4 := Q6 (by simpa [upb] using h); simp [upb, h4.1, h4.2], fun h => by have h4 := Q8 (by simpa [upb] using h); simp [upb, h4.1, h4.2], fun h => F0 (by simpa [upb] using h), fun h => p18 (by simpa [upb] using h), fun h => p19 (by simpa [upb] using h), fun h => p20 (by simpa [upb] using h), fun h => p21 (by simpa [upb] using h), fun _ => rfl, fun _ => rfl, fun h => p24 (by simpa [upb] using h)⟩
        case op6 =>
          rintro bb _ w' ⟨x18, x19, x20, x21, x22, x23, x24, x5, rfl, B, A1, Q6, Q8, F0, p18, p19, p20, p21, p22, p23, p24⟩ hb hd K hK
          simp only [Act.put, List.setIfInBounds_toArray, List.set_cons_zero, List.set_cons_succ]
          obtain rfl := (p21 (hd 3 (by decide))).symm
          obtain rfl := (p23 (hd 5 (by decide))).symm
          rw [if_pos (by rfl)]
          have h8 : bb 8 = false := by cases h : bb 8 with | false => rfl | true => exact absurd ((Q8 h).1) (by rw [hb]; decide)
          obtain ⟨a', b', c', d', hr1, hr2, hz', hi'⟩ := (HS3.out.next (B h8)).find x2
          obtain ⟨rfl, rfl, rfl⟩ : y0 = a' ∧ y1 = b' ∧ y2 = c' := by rw [hz.out] at hz'; simpa using hz'
          go_simp
          exact hK _ _ ⟨x18, x19, x20, .map (some q.gm), x22, .int .i64 x2, .agg #[.int .i64 y0, .int .i64 y1, .bool y2], x5, by simp only [Act.put, List.setIfInBounds_toArray, List.set_cons_zero, List.set_cons_succ], fun h => B (by simpa [upb] using h), fun h h2 => A1 (by simpa [upb] using h) (by simpa [upb] using h2), fun _ => ⟨by have := hd 3 (by decide); simp [upb, this], by have := hd 5 (by decide); simp [upb, this]⟩, fun h => by have h4 := Q8 (by simpa [upb] using h); simp [upb, h4.1, h4.2], fun h => F0 (by simpa [upb] using h), fun h => p18 (by simpa [upb] using h), fun h => p19 (by simpa [upb] using h), fun h => p20 (by simpa [upb] using h), fun _ => rfl, fun h => p22 (by simpa [upb] using h), fun _ => rfl, fun _ => rfl⟩
        case op7 =>
          rintro bb _ w' ⟨x18, x19, x20, x21, x22, x23, x24, x5, rfl, B, A1, Q6, Q8, F0, p18, p19, p20, p21, p22, p23, p24⟩ hb hd K hK
          simp only [Act.put, List.setIfInBounds_toArray, List.set_cons_zero, List.set_cons_succ]
          rw [if_pos (by rfl)]
          have h8 : bb 8 = false := by cases h : bb 8 with | false => rfl | true => exact absurd ((Q8 h).2) (by rw [hb]; decide)
          go_simp
          exact hK _ _ ⟨x18, x19, x20, x21, x22, x23, x24, .pointer (some ⟨w'.heap.size, 0, none⟩), by simp only [Act.put, List.setIfInBounds_toArray, List.set_cons_zero, List.set_cons_succ], fun _ => below_alloc (B h8) _, fun _ _ => ⟨_, rfl, (B h8).size, blk_new _ _⟩, fun h => by have h4 := Q6 (by simpa [upb] using h); simp [upb, h4.1, h4.2], fun h => by have h4 := Q8 (by simpa [upb] using h); simp [upb, h4.1, h4.2], fun h => absurd (show bb 8 = true by simpa [upb] using h) (by rw [h8]; decide), fun h => p18 (by simpa [upb] using h), fun h => p19 (by simpa [upb] using h), fun h => p20 (by simpa [upb] using h), fun h => p21 (by simpa [upb] using h), fun h => p22 (by simpa [upb] using h), fun h => p23 (by simpa [upb] using h), fun h => p24 (by simpa [upb] using h)⟩
        case op8 =>
          rintro bb _ w' ⟨x18, x19, x20, x21, x22, x23, x24, x5, rfl, B, A1, Q6, Q8, F0, p18, p19, p20, p21, p22, p23, p24⟩ hb hd K hK
          simp only [Act.put, List.setIfInBounds_toArray, List.set_cons_zero, List.set_cons_succ]
          obtain rfl := (p24 (hd 6 (by decide))).symm
          rw [if_pos (by rfl)]
          obtain ⟨k5, e5, hk5, hb5⟩ := A1 (hd 7 (by decide)) hb
          subst e5
          have c0 : w'.cell? ⟨k5, 0, none⟩ = some (.int .i64 0) := (blk_cell hb5 0).trans rfl
          have c1 : w'.cell? ⟨k5, 1, none⟩ = some (.int .i64 0) := (blk_cell hb5 1).trans rfl
          have c2 : w'.cell? ⟨k5, 2, none⟩ = some (.bool false) := (blk_cell hb5 2).trans rfl
          have f0 : w'.frozen? ⟨k5, 0, none⟩ = false := blk_frozen hb5 0
          have f1 : w'.frozen? ⟨k5, 1, none⟩ = false := blk_frozen hb5 1
          have f2 : w'.frozen? ⟨k5, 2, none⟩ = false := blk_frozen hb5 2
          have hfin := tk_fin (B hb) hk5 hb5 y0 y1 y2
          go_simp
          exact hK _ _ ⟨x18, x19, x20, x21, x22, x23, .agg #[.int .i64 y0, .int .i64 y1, .bool y2], .pointer (some ⟨k5, 0, none⟩), by simp only [Act.put, List.setIfInBounds_toArray, List.set_cons_zero, List.set_cons_succ], fun h => absurd h (by simp [upb]), fun _ h => absurd h (by simp [upb]), fun h => by have h4 := Q6 (by simpa [upb] using h); simp [upb, h4.1, h4.2], fun _ => ⟨by have := hd 6 (by decide); simp [upb, this], by have := hd 7 (by decide); simp [upb, this]⟩, fun _ => hfin, fun h => p18 (by simpa [upb] using h), fun h => p19 (by simpa [upb] using h), fun h => p20 (by simpa [upb] using h), fun h => p21 (by simpa [upb] using h), fun h => p22 (by simpa [upb] using h), fun h => p23 (by simpa [upb] using h), fun _ => rfl⟩
        case done =>
          rintro bb _ w' hb ⟨x18, x19, x20, x21, x22, x23, x24, x5, rfl, B, A1, Q6, Q8, F0, p18, p19, p20, p21, p22, p23, p24⟩
          obtain rfl := (p18 (hb 0 (by decide))).symm
          obtain rfl := (p19 (hb 1 (by decide))).symm
          obtain rfl := (p20 (hb 2 (by decide))).symm
          obtain rfl := (p21 (hb 3 (by decide))).symm
          obtain rfl := (p22 (hb 4 (by decide))).symm
          obtain rfl := (p23 (hb 5 (by decide))).symm
          obtain rfl := (p24 (hb 6 (by decide))).symm
          simp only [Act.put, List.setIfInBounds_toArray, List.set_cons_zero, List.set_cons_succ]
          obtain ⟨k5, rfl, hk5, hB4, hb5⟩ := F0 (hb 8 (by decide))
          obtain ⟨W4, hW4⟩ : ∃ W4, w' = W4 := ⟨_, rfl⟩
          subst hW4
          have HB4 := Lib.hid hB4
          have H5 := Lib.hid hb5
          have HK5 := Lib.hid hk5
          clear B A1 Q6 Q8 F0 hb hB4 hb5 hk5
          have HS4 := Lib.hid (HS3.out.next HB4.out)
          have HF4 := Lib.hid (Fr.trans HF3.out (Fr.of_below HB4.out g q.gm v2.ownBlock) HM2.out)
          have H24 := Lib.hid ((HB4.out.block k2 (blk_lt H23.out)).trans H23.out)
          have H44 := Lib.hid ((HB4.out.block k4 (blk_lt H4.out)).trans H4.out)
          have hr5 : some k5 ≠ v2.ownBlock := HS3.out.hp.ne_new HK5.out
          have hg5 : k5 ≠ g := by have := blk_lt HS3.out.hp.blk; have := HK5.out; omega
          have hm5 : k5 ≠ q.gm := by have := HS3.out.map.lt; have := HK5.out; omega
          have h45 : k4 ≠ k5 := by have := blk_lt H4.out; have := HK5.out; omega
          have h25 : k2 ≠ k5 := by have := blk_lt H23.out; have := HK5.out; omega
          have hw5 : W.heap.size ≤ k5 := Nat.le_trans HF3.out.1 HK5.out
          have hww5 : w.heap.size ≤ k5 := Nat.le_trans HWS.out hw5
          clear HS3 HF3 H23 H4 HB4 HK5
          have c52 : w'.cell? ⟨k5, 2, none⟩ = some (.bool y2) := (blk_cell H5.out 2).trans rfl
          cases y2 with
          | true =>
            have hE2 := HE.out
            rw [if_pos rfl] at hE2
            have HE2 := Lib.hid hE2
            clear hE2 HE
            go_wp2_with fail
            go_roundg k1
            case measure => omega
            case rel => exact ⟨v2, l2, F1, by omega, by omega, HE2, HS4, HF4, HM2, H24, hn2'⟩
          | false =>
            have hE2 := HE.out
            rw [if_neg (by decide)] at hE2
            subst hE2
            clear HE
            have f52 : w'.frozen? ⟨k5, 2, none⟩ = false := blk_frozen H5.out 2
            go_wp2_with fail
            have hb5 := (blk_set H5.out 2 (.bool true)).trans rfl
            have hb4 := blk_far H44.out (p := ⟨k5, 2, none⟩) h45 (.bool true)
            have hb2 := blk_far H24.out (p := ⟨k5, 2, none⟩) h25 (.bool true)
            have hS5 := HS4.out.far 2 (.bool true) hg5 hm5 hr5 hww5
            have hF5 := HF4.out.set hw5 2 (.bool true)
            obtain ⟨W5, hW5⟩ : ∃ W5, w'.setCell ⟨k5, 2, none⟩ (.bool true) = W5 := ⟨_, rfl⟩
            rw [hW5] at hb5 hb4 hb2 hS5 hF5 ⊢
            have g7 : W5.cell? ⟨g, 7, none⟩ = some (.map (some q.gm)) := (blk_cell hS5.hp.blk 7).trans rfl
            have g42 : W5.cell? ⟨k4, 2, none⟩ = some (.int .i64 x2) := (blk_cell hb4 2).trans rfl
            have g50 : W5.cell? ⟨k5, 0, none⟩ = some (.int .i64 y0) := (blk_cell hb5 0).trans rfl
            have g51 : W5.cell? ⟨k5, 1, none⟩ = some (.int .i64 y1) := (blk_cell hb5 1).trans rfl
            have g52 : W5.cell? ⟨k5, 2, none⟩ = some (.bool true) := (blk_cell hb5 2).trans rfl
            have hbd := below_drew1 (Below.refl W5.heap.size W5)
            obtain ⟨W6, hrun, hS6, hF6, hB6⟩ := (hS5.next hbd).put x2 (y0, y1, true)
            simp only at hrun
            have HS6 := Lib.hid hS6
            have HF6 := Lib.hid (Fr.trans hF5 (Fr.trans (Fr.of_below hbd g q.gm v2.ownBlock) hF6 (.inl rfl)) HM2.out)
            have H46 := Lib.hid (hF6.blk (show W5.drew.heap[k4]? = _ from hb4) hg4 hm4 hn4)
            have H26 := Lib.hid (hF6.blk (show W5.drew.heap[k2]? = _ from hb2) (fun e => hgk e.symm) (fun e => hmk e.symm) hn2')
            clear hb5 hb4 hb2 hS5 hF5 hW5 hbd hS6 hF6 hB6 HS4 HF4 H24 H44 H5 c52 f52
            refine wp_region_inv (fun a0 w_0 b a' w' => ∃ x29 x30 x31 x32 x33 x34 x35 : Value, a' = (((((((a0.put (some 29) x29).put (some 30) x30).put (some 31) x31).put (some 32) x32).put (some 33) x33).put (some 34) x34).put (some 35) x35) ∧ (b 7 = false → w' = W5.drew) ∧ (b 7 = true → b 3 = true ∧ b 5 = true ∧ b 6 = true) ∧ (b 7 = true → w' = W6) ∧ (b 0 = true → x29 = .pointer (some ⟨g, 0, none⟩)) ∧ (b 1 = true → x30 = .pointer (some ⟨g, 0, none⟩)) ∧ (b 2 = true → x31 = .pointer (some ⟨g, 7, none⟩)) ∧ (b 3 = true → x32 = .map (some q.gm)) ∧ (b 4 = true → x33 = .pointer (some ⟨k4, 2, none⟩)) ∧ (b 5 = true → x34 = .int .i64 x2) ∧ (b 6 = true → x35 = .agg #[.int .i64 y0, .int .i64 y1, .bool true])) (by kernel_rfl) (by kernel_rfl) ?start ⟨?op0, ?op1, ?op2, ?op3, ?op4, ?op5, ?op6, ?op7, trivial⟩ ?done
            case start => exact ⟨_, _, _, _, _, _, _, by simp only [Act.put, List.setIfInBounds_toArray, List.set_cons_zero, List.set_cons_succ]; rfl, fun _ => rfl, fun h => absurd h (by decide), fun h => absurd h (by decide), fun h => absurd h (by decide), fun h => absurd h (by decide), fun h => absurd h (by decide), fun h => absurd h (by decide), fun h => absurd h (by decide), fun h => absurd h (by decide), fun h => absurd h (by decide)⟩
            case op0 =>
              rintro bb _ w' ⟨x29, x30, x31, x32, x33, x34, x35, rfl, A0, Q7, F0, p29, p30, p31, p32, p33, p34, p35⟩ hb hd K hK
              simp only [Act.put, List.setIfInBounds_toArray, List.set_cons_zero, List.set_cons_succ]
              rw [if_pos (by rfl)]
              go_simp
              exact hK _ _ ⟨.pointer (some ⟨g, 0, none⟩), x30, x31, x32, x33, x34, x35, by simp only [Act.put, List.setIfInBounds_toArray, List.set_cons_zero, List.set_cons_succ], fun h => A0 (by simpa [upb] using h), fun h => by have h4 := Q7 (by simpa [upb] using h); simp [upb, h4.1, h4.2.1, h4.2.2], fun h => F0 (by simpa [upb] using h), fun _ => rfl, fun h => p30 (by simpa [upb] using h), fun h => p31 (by simpa [upb] using h), fun h => p32 (by simpa [upb] using h), fun h => p33 (by simpa [upb] using h), fun h => p34 (by simpa [upb] using h), fun h => p35 (by simpa [upb] using h)⟩
            case op1 =>
              rintro bb _ w' ⟨x29, x30, x31, x32, x33, x34, x35, rfl, A0, Q7, F0, p29, p30, p31, p32, p33, p34, p35⟩ hb hd K hK
              simp only [Act.put, List.setIfInBounds_toArray, List.set_cons_zero, List.set_cons_succ]
              obtain rfl := (p29 (hd 0 (by decide))).symm
              rw [if_pos (by rfl)]
              go_simp
              exact hK _ _ ⟨.pointer (some ⟨g, 0, none⟩), .pointer (some ⟨g, 0, none⟩), x31, x32, x33, x34, x35, by simp only [Act.put, List.setIfInBounds_toArray, List.set_cons_zero, List.set_cons_succ], fun h => A0 (by simpa [upb] using h), fun h => by have h4 := Q7 (by simpa [upb] using h); simp [upb, h4.1, h4.2.1, h4.2.2], fun h => F0 (by simpa [upb] using h), fun _ => rfl, fun _ => rfl, fun h => p31 (by simpa [upb] using h), fun h => p32 (by simpa [upb] using h), fun h => p33 (by simpa [upb] using h), fun h => p34 (by simpa [upb] using h), fun h => p35 (by simpa [upb] using h)⟩
            case op2 =>
              rintro bb _ w' ⟨x29, x30, x31, x32, x33, x34, x35, rfl, A0, Q7, F0, p29, p30, p31, p32, p33, p34, p35⟩ hb hd K hK
              simp only [Act.put, List.setIfInBounds_toArray, List.set_cons_zero, List.set_cons_succ]
              obtain rfl := (p30 (hd 1 (by decide))).symm
              rw [if_pos (by rfl)]
              go_simp
              exact hK _ _ ⟨x29, .pointer (some ⟨g, 0, none⟩), .pointer (some ⟨g, 7, none⟩), x32, x33, x34, x35, by simp only [Act.put, List.setIfInBounds_toArray, List.set_cons_zero, List.set_cons_succ], fun h => A0 (by simpa [upb] using h), fun h => by have h4 := Q7 (by simpa [upb] using h); simp [upb, h4.1, h4.2.1, h4.2.2], fun h => F0 (by simpa [upb] using h), fun h => p29 (by simpa [upb] using h), fun _ => rfl, fun _ => rfl, fun h => p32 (by simpa [upb] using h), fun h => p33 (by simpa [upb] using h), fun h => p34 (by simpa [upb] using h), fun h => p35 (by simpa [upb] using h)⟩
            case op3 =>
              rintro bb _ w' ⟨x29, x30, x31, x32, x33, x34, x35, rfl, A0, Q7, F0, p29, p30, p31, p32, p33, p34, p35⟩ hb hd K hK
              simp only [Act.put, List.setIfInBounds_toArray, List.set_cons_zero, List.set_cons_succ]
              obtain rfl := (p31 (hd 2 (by decide))).symm
              rw [if_pos (by rfl)]
              have h7 : bb 7 = false := by cases h : bb 7 with | false => rfl | true => exact absurd ((Q7 h).1) (by rw [hb]; decide)
              obtain rfl := A0 h7
              go_simp
              exact hK _ _ ⟨x29, x30, .pointer (some ⟨g, 7, none⟩), .map (some q.gm), x33, x34, x35, by simp only [Act.put, List.setIfInBounds_toArray, List.set_cons_zero, List.set_cons_succ], fun h => A0 (by simpa [upb] using h), fun h => by have h4 := Q7 (by simpa [upb] using h); simp [upb, h4.1, h4.2.1, h4.2.2], fun h => F0 (by simpa [upb] using h), fun h => p29 (by simpa [upb] using h), fun h => p30 (by simpa [upb] using h), fun _ => rfl, fun _ => rfl, fun h => p33 (by simpa [upb] using h), fun h => p34 (by simpa [upb] using h), fun h => p35 (by simpa [upb] using h)⟩
            case op4 =>
              rintro bb _ w' ⟨x29, x30, x31, x32, x33, x34, x35, rfl, A0, Q7, F0, p29, p30, p31, p32, p33, p34, p35⟩ hb hd K hK
              simp only [Act.put, List.setIfInBounds_toArray, List.set_cons_zero, List.set_cons_succ]
              rw [if_pos (by rfl)]
              go_simp
              exact hK _ _ ⟨x29, x30, x31, x32, .pointer (some ⟨k4, 2, none⟩), x34, x35, by simp only [Act.put, List.setIfInBounds_toArray, List.set_cons_zero, List.set_cons_succ], fun h => A0 (by simpa [upb] using h), fun h => by have h4 := Q7 (by simpa [upb] using h); simp [upb, h4.1, h4.2.1, h4.2.2], fun h => F0 (by simpa [upb] using h), fun h => p29 (by simpa [upb] using h), fun h => p30 (by simpa [upb] using h), fun h => p31 (by simpa [upb] using h), fun h => p32 (by simpa [upb] using h), fun _ => rfl, fun h => p34 (by simpa [upb] using h), fun h => p35 (by simpa [upb] using h)⟩
            case op5 =>
              rintro bb _ w' ⟨x29, x30, x31, x32, x33, x34, x35, rfl, A0, Q7, F0, p29, p30, p31, p32, p33, p34, p35⟩ hb hd K hK
              simp only [Act.put, List.setIfInBounds_toArray, List.set_cons_zero, List.set_cons_succ]
              obtain rfl := (p33 (hd 4 (by decide))).symm
              rw [if_pos (by rfl)]
              have h7 : bb 7 = false := by cases h : bb 7 with | false => rfl | true => exact absurd ((Q7 h).2.1) (by rw [hb]; decide)
              obtain rfl := A0 h7
              go_simp
              exact hK _ _ ⟨x29, x30, x31, x32, .pointer (some ⟨k4, 2, none⟩), .int .i64 x2, x35, by simp only [Act.put, List.setIfInBounds_toArray, List.set_cons_zero, List.set_cons_succ], fun h => A0 (by simpa [upb] using h), fun h => by have h4 := Q7 (by simpa [upb] using h); simp [upb, h4.1, h4.2.1, h4.2.2], fun h => F0 (by simpa [upb] using h), fun h => p29 (by simpa [upb] using h), fun h => p30 (by simpa [upb] using h), fun h => p31 (by simpa [upb] using h), fun h => p32 (by simpa [upb] using h), fun _ => rfl, fun _ => rfl, fun h => p35 (by simpa [upb] using h)⟩
            case op6 =>
              rintro bb _ w' ⟨x29, x30, x31, x32, x33, x34, x35, rfl, A0, Q7, F0, p29, p30, p31, p32, p33, p34, p35⟩ hb hd K hK
              simp only [Act.put, List.setIfInBounds_toArray, List.set_cons_zero, List.set_cons_succ]
              rw [if_pos (by rfl)]
              have h7 : bb 7 = false := by cases h : bb 7 with | false => rfl | true => exact absurd ((Q7 h).2.2) (by rw [hb]; decide)
              obtain rfl := A0 h7
              go_simp
              exact hK _ _ ⟨x29, x30, x31, x32, x33, x34, .agg #[.int .i64 y0, .int .i64 y1, .bool true], by simp only [Act.put, List.setIfInBounds_toArray, List.set_cons_zero, List.set_cons_succ], fun h => A0 (by simpa [upb] using h), fun h => by have h4 := Q7 (by simpa [upb] using h); simp [upb, h4.1, h4.2.1, h4.2.2], fun h => F0 (by simpa [upb] using h), fun h => p29 (by simpa [upb] using h), fun h => p30 (by simpa [upb] using h), fun h => p31 (by simpa [upb] using h), fun h => p32 (by simpa [upb] using h), fun h => p33 (by simpa [upb] using h), fun h => p34 (by simpa [upb] using h), fun _ => rfl⟩
            case op7 =>
              rintro bb _ w' ⟨x29, x30, x31, x32, x33, x34, x35, rfl, A0, Q7, F0, p29, p30, p31, p32, p33, p34, p35⟩ hb hd K hK
              simp only [Act.put, List.setIfInBounds_toArray, List.set_cons_zero, List.set_cons_succ]
              obtain rfl := (p32 (hd 3 (by decide))).symm
              obtain rfl := (p34 (hd 5 (by decide))).symm
              obtain rfl := (p35 (hd 6 (by decide))).symm
              rw [if_pos (by rfl)]
              obtain rfl := A0 hb
              go_simp
              exact hK _ _ ⟨x29, x30, x31, .map (some q.gm), x33, .int .i64 x2, .agg #[.int .i64 y0, .int .i64 y1, .bool true], by simp only [Act.put, List.setIfInBounds_toArray, List.set_cons_zero, List.set_cons_succ], fun h => absurd h (by simp [upb]), fun _ => ⟨by have := hd 3 (by decide); simp [upb, this], by have := hd 5 (by decide); simp [upb, this], by have := hd 6 (by decide); simp [upb, this]⟩, fun _ => rfl, fun h => p29 (by simpa [upb] using h), fun h => p30 (by simpa [upb] using h), fun h => p31 (by simpa [upb] using h), fun _ => rfl, fun h => p33 (by simpa [upb] using h), fun _ => rfl, fun _ => rfl⟩
            case done =>
              rintro bb _ w' hb ⟨x29, x30, x31, x32, x33, x34, x35, rfl, A0, Q7, F0, p29, p30, p31, p32, p33, p34, p35⟩
              obtain rfl := (p29 (hb 0 (by decide))).symm
              obtain rfl := (p30 (hb 1 (by decide))).symm
              obtain rfl := (p31 (hb 2 (by decide))).symm
              obtain rfl := (p32 (hb 3 (by decide))).symm
              obtain rfl := (p33 (hb 4 (by decide))).symm
              obtain rfl := (p34 (hb 5 (by decide))).symm
              obtain rfl := (p35 (hb 6 (by decide))).symm
              simp only [Act.put, List.setIfInBounds_toArray, List.set_cons_zero, List.set_cons_succ]
              obtain rfl := F0 (hb 7 (by decide))
              clear A0 Q7 F0 hb
              have c40 : w'.cell? ⟨k4, 0, none⟩ = some (.int .i64 x0) := (blk_cell H46.out 0).trans rfl
              have c41 : w'.cell? ⟨k4, 1, none⟩ = some (.int .i64 x1) := (blk_cell H46.out 1).trans rfl
              have c42 : w'.cell? ⟨k4, 2, none⟩ = some (.int .i64 x2) := (blk_cell H46.out 2).trans rfl
              have c20 : w'.cell? ⟨k2, 0, none⟩ = some (.int .i64 0) := (blk_cell H26.out 0).trans rfl
              have c21 : w'.cell? ⟨k2, 1, none⟩ = some (.int .i64 0) := (blk_cell H26.out 1).trans rfl
              have c22 : w'.cell? ⟨k2, 2, none⟩ = some (.int .i64 0) := (blk_cell H26.out 2).trans rfl
              have f20 : w'.frozen? ⟨k2, 0, none⟩ = false := blk_frozen H26.out 0
              have f21 : w'.frozen? ⟨k2, 1, none⟩ = false := blk_frozen H26.out 1
              have f22 : w'.frozen? ⟨k2, 2, none⟩ = false := blk_frozen H26.out 2
              clear hrun g7 g42 g50 g51 g52
              go_wp2_with fail
              refine bodyPost_ret (results_list (rs := [.cell 2 51, .tmp 3]) rfl (by simp) (.cell k2 51 #[.int .i64 x0, .int .i64 x1, .int .i64 x2] (0, 0) _ rfl ((blk_set (blk_set (blk_set H26.out 0 _) 1 _) 2 _).trans rfl) Try.underlying51 rfl rfl (.tmp .nil))) rfl ?_
              exact ⟨rfl, v2, (((HS6.out.far 0 _ (fun e => hgk e.symm) (fun e => hmk e.symm) hn2' hwk).far 1 _ (fun e => hgk e.symm) (fun e => hmk e.symm) hn2' hwk).far 2 _ (fun e => hgk e.symm) (fun e => hmk e.symm) hn2' hwk), ((HF6.out.set hW2 0 _).set hW2 1 _).set hW2 2 _, HM2.out⟩
end Go.Proofs.Ytkbimhngbdbgdaa.PPathFinds
