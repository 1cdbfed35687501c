import Derived.Test.YtigcgdhihaibbaaDoorZ7
namespace Go.Proofs.YtigcgdhihaibbaaDoor.PLz
open Go.RowKit Go.Proofs.YtigcgdhihaibbaaDoorW.PrintWords Go.Proofs.YtigcgdhihaibbaaDoorW.PrintLast Go.Proofs.YtigcgdhihaibbaaDoorW.PrintMore
attribute [local go_sem] max2_int min2_int max_two min_two max_three min_three max_four min_four   -- for this text's walks alone
set_option linter.unusedVariables false
set_option linter.unusedSimpArgs false
theorem lz_u8 (x : Int) (h : 0 ≤ x ∧ x < 256) : IntKind.u8.wrap x = x := by
  unfold IntKind.wrap
  simp [IntKind.bits, IntKind.signed]
  omega
theorem lz_mem (l : List Nat) (h : [0, 1, 2, 3, 4, 5, 6, 7, 8, 9, 10, 11, 12, 13, 15].all (fun j => decide (j ∈ l)) = true) (j : Nat) (hj : j ∈ [0, 1, 2, 3, 4, 5, 6, 7, 8, 9, 10, 11, 12, 13, 15]) : j ∈ l := by
  simpa using List.all_eq_true.1 h j hj
theorem lz_q16 {b : Nat → Bool} (h : ∀ j, j ∈ [0, 1, 2, 3, 4, 5, 6, 7, 8, 9, 10, 11, 12, 13, 15] → b j = true) (h2 : b 14 = true) (j : Nat) (hj : j < 16) : b j = true := by
  by_cases e : j = 14
  · rw [e]; exact h2
  · exact h j (by simp; omega)
theorem lz_upb {b : Nat → Bool} {i j : Nat} (h : b j = true) : upb b i j = true := by simp [upb, h]
def lz_tok (out ll : List Int) : List Int := out ++ [2 * ((ll.length : Int) - 1)] ++ ll
def lz_Told (w0 w' : World) (g gm pb : Nat) (A : Option Addr) (c : Nat) (b : List Int) (at_ plain : Nat) (out : List Int) (L : List ((Int × Int × Int) × Value)) : Prop :=
  ∃ v', lz_St w0 w' g gm A c b at_ plain v' out L ∧ w'.heap[pb]? = some (.cells #[.pointer (some ⟨g, 0, none⟩)] 66 (0, 0))
theorem lz_R_form {e B : Nat} {W : World} {v : Value} {xs : List Int} (h : Kd.R (Kd.int .u8) e W B (fun _ => True) v xs) (hx : 0 < xs.length) : ∃ g1 n cap, v = .slice (some ⟨g1, 0, none⟩) n cap := by
  rcases (Kd.own_of_R h).2 with ⟨rfl, hn⟩ | ⟨g', cap, cur, rfl, _⟩
  · omega
  · exact ⟨g', _, cap, rfl⟩
/-- what came out is stored: only its row and new blocks were written -/
theorem lz_St.told {w0 W w' : World} {g gm pb : Nat} {A : Option Addr} {c : Nat} {b : List Int} {at_ plain : Nat} {vo v' : Value} {out out' : List Int} {L : List ((Int × Int × Int) × Value)} (h : lz_St w0 W g gm A c b at_ plain vo out L)
    (hK : KeepBut W w' W.heap.size vo.ownBlock) (hG : lz_Blk w' g A b.length c at_ gm vo plain) (hB : Below w0.heap.size w0 w') (hR : Kd.R (Kd.int .u8) 5 w' w0.heap.size (fun _ => True) v' out') (hP : w'.heap[pb]? = some (.cells #[.pointer (some ⟨g, 0, none⟩)] 66 (0, 0))) :
    lz_St w0 (w'.setCell ⟨g, 3, none⟩ v') g gm A c b at_ plain v' out' L ∧ (w'.setCell ⟨g, 3, none⟩ v').heap[pb]? = some (.cells #[.pointer (some ⟨g, 0, none⟩)] 66 (0, 0)) := by
  have hgm : gm < W.heap.size := lz_Map_lt h.seen.map
  have hgmr : some gm ≠ vo.ownBlock := fun e => lz_gm_row h.seen.map h.out e.symm
  have hmap : lz_Map w' gm L := lz_Map_next h.seen.map (hK.2 gm hgm (by omega) hgmr)
  have hrow : ∀ k, Kd.R (Kd.int .i64) 3 w' w0.heap.size (fun _ => True) (lz_get L k) (lz_ints (lz_poss b at_ k)) := fun k => by
    refine Kd.R_mono (Kd.R_step (Kd.R_bound (h.seen.row k)) (fun q hq hlt => hK.2 q hlt (by omega) ?_)) (fun _ _ => trivial)
    intro e
    obtain ⟨_, _, _, t, ht, cells, hc⟩ := hq
    obtain ⟨_, _, _, t', ht', cells', hc'⟩ := (Kd.R_bound h.out).1 q e.symm
    rw [hc] at hc'
    injection hc' with h1
    injection h1 with h2 h3 h4
    have a : t = 3 := by simpa [Kd.E, Kd.int, Kd.scalar] using ht
    have b : t' = 5 := by simpa [Kd.E, Kd.int, Kd.scalar] using ht'
    rw [a, b] at h3
    exact absurd h3 (by decide)
  refine ⟨⟨by unfold lz_Blk; simpa using blk_set hG 3 v', hB.setCell h.gb _, ⟨lz_Map_next hmap (Below.heap_setCell _ _ _ _ (fun e => lz_g_gm hG hmap e.symm)), fun k => ?_, h.seen.apart⟩, ?_, h.gb, h.gmb⟩, ?_⟩
  · exact Kd.R_mono (Kd.R_set (hrow k) hG (by simp [Kd.E, Kd.int, Kd.scalar]) 3 _) (fun _ _ => trivial)
  · exact Kd.R_mono (Kd.R_set hR hG (by simp [Kd.E, Kd.int, Kd.scalar]) 3 _) (fun _ _ => trivial)
  · exact blk_far hP (p := ⟨g, 3, none⟩) (blk_ne hP hG (by decide)) v'
set_option maxHeartbeats 4000000 in
theorem lz_tell_calls (w0 W : World) (g gm pb : Nat) (A : Option Addr) (c : Nat) (b_ : List Int) (at_ plain : Nat) (vo : Value) (out ll : List Int) (L : List ((Int × Int × Int) × Value)) (ad : Addr) (cl : Nat) (hC : Kd.C (Kd.int .u8) w0 (some ad) ll.length ll) (hcl : ll.length ≤ cl) (hl1 : 1 ≤ ll.length) (hl2 : ll.length ≤ 64) (ho : out.length ≤ 4000000)
    (hS : lz_St w0 W g gm A c b_ at_ plain vo out L) (hP : W.heap[pb]? = some (.cells #[.pointer (some ⟨g, 0, none⟩)] 66 (0, 0))) :
    Calls Tryd.prog 49 #[.slice (some ad) ll.length cl, .pointer (some ⟨pb, 0, none⟩)] W fun e w' => e = .returned (.tuple #[]) ∧ lz_Told w0 w' g gm pb A c b_ at_ plain (lz_tok out ll) L := by
  have hgrow : some g ≠ vo.ownBlock := lz_g_out hS.blk hS.out
  have hprow : some pb ≠ vo.ownBlock := Kd.R_ne hS.out hP (by decide)
  have HS := Lib.hid hS
  have HC := Lib.hid hC
  have HP := Lib.hid hP
  clear hS hC hP
  go_enter Tryd.func49, Tryd.ntmps49
  go_wp2_with fail
  refine wp_region_inv (fun a0 w_0 b a' w' => ∃ x3 x4 x5 x6 x7 x8 x9 x10 x11 x12 x13 x14 x15 x16 x17 x18 : Value, a' = ((((((((((((((((a0.put (some 3) x3).put (some 4) x4).put (some 5) x5).put (some 6) x6).put (some 7) x7).put (some 8) x8).put (some 9) x9).put (some 10) x10).put (some 11) x11).put (some 12) x12).put (some 13) x13).put (some 14) x14).put (some 15) x15).put (some 16) x16).put (some 17) x17).put (some 18) x18) ∧ (b 16 = false → KeepBut W w' W.heap.size vo.ownBlock) ∧ Below w0.heap.size w0 w' ∧ (b 11 = false → Kd.R (Kd.int .u8) 5 w' w0.heap.size (fun _ => True) vo out) ∧ (b 11 = true → b 13 = false → Kd.R (Kd.int .u8) 5 w' w0.heap.size (fun _ => True) x14 (out ++ [(2 * ((ll.length : Int) - 1))]) ∧ (x14.ownBlock = vo.ownBlock ∨ ∃ q, x14.ownBlock = some q ∧ W.heap.size ≤ q)) ∧ (b 13 = true → b 16 = false → Kd.R (Kd.int .u8) 5 w' w0.heap.size (fun _ => True) x16 (out ++ [(2 * ((ll.length : Int) - 1))] ++ ll)) ∧ (b 10 = true → b 11 = false → ∃ gN, x13 = .slice (some ⟨gN, 0, none⟩) 1 1 ∧ W.heap.size ≤ gN ∧ w'.heap[gN]? = some (.cells #[.int .u8 (2 * ((ll.length : Int) - 1))] 5 (0, 0))) ∧ (b 13 = true → b 11 = true) ∧ (b 16 = true → lz_St w0 w' g gm A c b_ at_ plain x16 (out ++ [(2 * ((ll.length : Int) - 1))] ++ ll) L ∧ w'.heap[pb]? = some (.cells #[.pointer (some ⟨g, 0, none⟩)] 66 (0, 0))) ∧ (b 15 = true → b 14 = true) ∧ (b 16 = true → ∀ j, j < 16 → b j = true) ∧ (b 0 = true → x3 = .pointer (some ⟨g, 0, none⟩)) ∧ (b 1 = true → x4 = .pointer (some ⟨g, 0, none⟩)) ∧ (b 2 = true → x5 = .pointer (some ⟨g, 0, none⟩)) ∧ (b 3 = true → x6 = .pointer (some ⟨g, 3, none⟩)) ∧ (b 4 = true → x7 = vo) ∧ (b 5 = true → x8 = .slice (some ad) ll.length cl) ∧ (b 6 = true → x9 = .int .i64 (ll.length : Int)) ∧ (b 7 = true → x10 = .int .i64 ((ll.length : Int) - 1)) ∧ (b 8 = true → x11 = .int .i64 (2 * ((ll.length : Int) - 1))) ∧ (b 9 = true → x12 = .int .u8 (2 * ((ll.length : Int) - 1))) ∧ (b 12 = true → x15 = .slice (some ad) ll.length cl) ∧ (b 14 = true → x17 = .pointer (some ⟨g, 0, none⟩)) ∧ (b 15 = true → x18 = .pointer (some ⟨g, 3, none⟩))) (by kernel_rfl) (by kernel_rfl) ?start ⟨?op0, ?op1, ?op2, ?op3, ?op4, ?op5, ?op6, ?op7, ?op8, ?op9, ?op10, ?op11, ?op12, ?op13, ?op14, ?op15, ?op16, trivial⟩ ?done
  case start => exact ⟨_, _, _, _, _, _, _, _, _, _, _, _, _, _, _, _, by simp only [Act.put, List.setIfInBounds_toArray, List.set_cons_zero, List.set_cons_succ]; rfl, fun _ => KeepBut.of_below (below_drew1 (Below.refl _ _)) _ _, below_drew1 HS.out.hb, fun _ => Kd.R_drew HS.out.out, fun h => absurd h (by decide), fun h => absurd h (by decide), fun h => absurd h (by decide), fun h => absurd h (by decide), fun h => absurd h (by decide), fun h => absurd h (by decide), fun h => absurd h (by decide), fun h => absurd h (by decide), fun h => absurd h (by decide), fun h => absurd h (by decide), fun h => absurd h (by decide), fun h => absurd h (by decide), fun h => absurd h (by decide), fun h => absurd h (by decide), fun h => absurd h (by decide), fun h => absurd h (by decide), fun h => absurd h (by decide), fun h => absurd h (by decide), fun h => absurd h (by decide), fun h => absurd h (by decide)⟩
  case op0 =>
    rintro bb _ w' ⟨x3, x4, x5, x6, x7, x8, x9, x10, x11, x12, x13, x14, x15, x16, x17, x18, rfl, KB, HB, R0, R1, R2, S1, Q13, F, Q15, Q16, p3, p4, p5, p6, p7, p8, p9, p10, p11, p12, p15, p17, p18⟩ hb hd K hK
    simp only [Act.put, List.setIfInBounds_toArray, List.set_cons_zero, List.set_cons_succ]
    rw [if_pos (by rfl)]
    have h16 : bb 16 = false := by cases h : bb 16 with | false => rfl | true => exact absurd (Q16 h 0 (by decide)) (by rw [hb]; decide)
    have hc : w'.cell? ⟨pb, 0, none⟩ = some (.pointer (some ⟨g, 0, none⟩)) := blk_cell ((KB h16).blk HP.out (by have := blk_lt HP.out; omega) hprow) 0
    go_simp
    exact hK _ _ ⟨.pointer (some ⟨g, 0, none⟩), x4, x5, x6, x7, x8, x9, x10, x11, x12, x13, x14, x15, x16, x17, x18, by simp only [Act.put, List.setIfInBounds_toArray, List.set_cons_zero, List.set_cons_succ], fun _ => KB h16, HB, fun h => R0 (by simpa [upb] using h), fun h h2 => R1 (by simpa [upb] using h) (by simpa [upb] using h2), fun h h2 => R2 (by simpa [upb] using h) (by simpa [upb] using h2), fun h h2 => S1 (by simpa [upb] using h) (by simpa [upb] using h2), fun h => by have := Q13 (by simpa [upb] using h); simp [upb, this], fun h => absurd h (by simp [upb, h16]), fun h => lz_upb (Q15 (by simpa [upb] using h)), fun h => absurd h (by simp [upb, h16]), fun _ => rfl, fun h => p4 (by simpa [upb] using h), fun h => p5 (by simpa [upb] using h), fun h => p6 (by simpa [upb] using h), fun h => p7 (by simpa [upb] using h), fun h => p8 (by simpa [upb] using h), fun h => p9 (by simpa [upb] using h), fun h => p10 (by simpa [upb] using h), fun h => p11 (by simpa [upb] using h), fun h => p12 (by simpa [upb] using h), fun h => p15 (by simpa [upb] using h), fun h => p17 (by simpa [upb] using h), fun h => p18 (by simpa [upb] using h)⟩
  case op1 =>
    rintro bb _ w' ⟨x3, x4, x5, x6, x7, x8, x9, x10, x11, x12, x13, x14, x15, x16, x17, x18, rfl, KB, HB, R0, R1, R2, S1, Q13, F, Q15, Q16, p3, p4, p5, p6, p7, p8, p9, p10, p11, p12, p15, p17, p18⟩ hb hd K hK
    simp only [Act.put, List.setIfInBounds_toArray, List.set_cons_zero, List.set_cons_succ]
    rw [if_pos (by rfl)]
    have h16 : bb 16 = false := by cases h : bb 16 with | false => rfl | true => exact absurd (Q16 h 1 (by decide)) (by rw [hb]; decide)
    have hc : w'.cell? ⟨pb, 0, none⟩ = some (.pointer (some ⟨g, 0, none⟩)) := blk_cell ((KB h16).blk HP.out (by have := blk_lt HP.out; omega) hprow) 0
    go_simp
    exact hK _ _ ⟨x3, .pointer (some ⟨g, 0, none⟩), x5, x6, x7, x8, x9, x10, x11, x12, x13, x14, x15, x16, x17, x18, by simp only [Act.put, List.setIfInBounds_toArray, List.set_cons_zero, List.set_cons_succ], fun _ => KB h16, HB, fun h => R0 (by simpa [upb] using h), fun h h2 => R1 (by simpa [upb] using h) (by simpa [upb] using h2), fun h h2 => R2 (by simpa [upb] using h) (by simpa [upb] using h2), fun h h2 => S1 (by simpa [upb] using h) (by simpa [upb] using h2), fun h => by have := Q13 (by simpa [upb] using h); simp [upb, this], fun h => absurd h (by simp [upb, h16]), fun h => lz_upb (Q15 (by simpa [upb] using h)), fun h => absurd h (by simp [upb, h16]), fun h => p3 (by simpa [upb] using h), fun _ => rfl, fun h => p5 (by simpa [upb] using h), fun h => p6 (by simpa [upb] using h), fun h => p7 (by simpa [upb] using h), fun h => p8 (by simpa [upb] using h), fun h => p9 (by simpa [upb] using h), fun h => p10 (by simpa [upb] using h), fun h => p11 (by simpa [upb] using h), fun h => p12 (by simpa [upb] using h), fun h => p15 (by simpa [upb] using h), fun h => p17 (by simpa [upb] using h), fun h => p18 (by simpa [upb] using h)⟩
  case op2 =>
    rintro bb _ w' ⟨x3, x4, x5, x6, x7, x8, x9, x10, x11, x12, x13, x14, x15, x16, x17, x18, rfl, KB, HB, R0, R1, R2, S1, Q13, F, Q15, Q16, p3, p4, p5, p6, p7, p8, p9, p10, p11, p12, p15, p17, p18⟩ hb hd K hK
    simp only [Act.put, List.setIfInBounds_toArray, List.set_cons_zero, List.set_cons_succ]
    obtain rfl := (p4 (hd 1 (by decide))).symm
    rw [if_pos (by rfl)]
    have h16 : bb 16 = false := by cases h : bb 16 with | false => rfl | true => exact absurd (Q16 h 2 (by decide)) (by rw [hb]; decide)
    have hG : lz_Blk w' g A b_.length c at_ gm vo plain := (KB h16).blk HS.out.blk (by have := blk_lt HS.out.blk; omega) hgrow
    have hc : w'.cell? ⟨g, 0, none⟩ = _ := blk_cell hG 0
    go_simp
    exact hK _ _ ⟨x3, .pointer (some ⟨g, 0, none⟩), .pointer (some ⟨g, 0, none⟩), x6, x7, x8, x9, x10, x11, x12, x13, x14, x15, x16, x17, x18, by simp only [Act.put, List.setIfInBounds_toArray, List.set_cons_zero, List.set_cons_succ], fun _ => KB h16, HB, fun h => R0 (by simpa [upb] using h), fun h h2 => R1 (by simpa [upb] using h) (by simpa [upb] using h2), fun h h2 => R2 (by simpa [upb] using h) (by simpa [upb] using h2), fun h h2 => S1 (by simpa [upb] using h) (by simpa [upb] using h2), fun h => by have := Q13 (by simpa [upb] using h); simp [upb, this], fun h => absurd h (by simp [upb, h16]), fun h => lz_upb (Q15 (by simpa [upb] using h)), fun h => absurd h (by simp [upb, h16]), fun h => p3 (by simpa [upb] using h), fun _ => rfl, fun _ => rfl, fun h => p6 (by simpa [upb] using h), fun h => p7 (by simpa [upb] using h), fun h => p8 (by simpa [upb] using h), fun h => p9 (by simpa [upb] using h), fun h => p10 (by simpa [upb] using h), fun h => p11 (by simpa [upb] using h), fun h => p12 (by simpa [upb] using h), fun h => p15 (by simpa [upb] using h), fun h => p17 (by simpa [upb] using h), fun h => p18 (by simpa [upb] using h)⟩
  case op3 =>
    rintro bb _ w' ⟨x3, x4, x5, x6, x7, x8, x9, x10, x11, x12, x13, x14, x15, x16, x17, x18, rfl, KB, HB, R0, R1, R2, S1, Q13, F, Q15, Q16, p3, p4, p5, p6, p7, p8, p9, p10, p11, p12, p15, p17, p18⟩ hb hd K hK
    simp only [Act.put, List.setIfInBounds_toArray, List.set_cons_zero, List.set_cons_succ]
    obtain rfl := (p5 (hd 2 (by decide))).symm
    rw [if_pos (by rfl)]
    have h16 : bb 16 = false := by cases h : bb 16 with | false => rfl | true => exact absurd (Q16 h 3 (by decide)) (by rw [hb]; decide)
    go_simp
    exact hK _ _ ⟨x3, x4, .pointer (some ⟨g, 0, none⟩), .pointer (some ⟨g, 3, none⟩), x7, x8, x9, x10, x11, x12, x13, x14, x15, x16, x17, x18, by simp only [Act.put, List.setIfInBounds_toArray, List.set_cons_zero, List.set_cons_succ], fun _ => KB h16, HB, fun h => R0 (by simpa [upb] using h), fun h h2 => R1 (by simpa [upb] using h) (by simpa [upb] using h2), fun h h2 => R2 (by simpa [upb] using h) (by simpa [upb] using h2), fun h h2 => S1 (by simpa [upb] using h) (by simpa [upb] using h2), fun h => by have := Q13 (by simpa [upb] using h); simp [upb, this], fun h => absurd h (by simp [upb, h16]), fun h => lz_upb (Q15 (by simpa [upb] using h)), fun h => absurd h (by simp [upb, h16]), fun h => p3 (by simpa [upb] using h), fun h => p4 (by simpa [upb] using h), fun _ => rfl, fun _ => rfl, fun h => p7 (by simpa [upb] using h), fun h => p8 (by simpa [upb] using h), fun h => p9 (by simpa [upb] using h), fun h => p10 (by simpa [upb] using h), fun h => p11 (by simpa [upb] using h), fun h => p12 (by simpa [upb] using h), fun h => p15 (by simpa [upb] using h), fun h => p17 (by simpa [upb] using h), fun h => p18 (by simpa [upb] using h)⟩
  case op4 =>
    rintro bb _ w' ⟨x3, x4, x5, x6, x7, x8, x9, x10, x11, x12, x13, x14, x15, x16, x17, x18, rfl, KB, HB, R0, R1, R2, S1, Q13, F, Q15, Q16, p3, p4, p5, p6, p7, p8, p9, p10, p11, p12, p15, p17, p18⟩ hb hd K hK
    simp only [Act.put, List.setIfInBounds_toArray, List.set_cons_zero, List.set_cons_succ]
    obtain rfl := (p6 (hd 3 (by decide))).symm
    rw [if_pos (by rfl)]
    have h16 : bb 16 = false := by cases h : bb 16 with | false => rfl | true => exact absurd (Q16 h 4 (by decide)) (by rw [hb]; decide)
    have hG : lz_Blk w' g A b_.length c at_ gm vo plain := (KB h16).blk HS.out.blk (by have := blk_lt HS.out.blk; omega) hgrow
    have hc : w'.cell? ⟨g, 3, none⟩ = some vo := blk_cell hG 3
    go_simp
    exact hK _ _ ⟨x3, x4, x5, .pointer (some ⟨g, 3, none⟩), vo, x8, x9, x10, x11, x12, x13, x14, x15, x16, x17, x18, by simp only [Act.put, List.setIfInBounds_toArray, List.set_cons_zero, List.set_cons_succ], fun _ => KB h16, HB, fun h => R0 (by simpa [upb] using h), fun h h2 => R1 (by simpa [upb] using h) (by simpa [upb] using h2), fun h h2 => R2 (by simpa [upb] using h) (by simpa [upb] using h2), fun h h2 => S1 (by simpa [upb] using h) (by simpa [upb] using h2), fun h => by have := Q13 (by simpa [upb] using h); simp [upb, this], fun h => absurd h (by simp [upb, h16]), fun h => lz_upb (Q15 (by simpa [upb] using h)), fun h => absurd h (by simp [upb, h16]), fun h => p3 (by simpa [upb] using h), fun h => p4 (by simpa [upb] using h), fun h => p5 (by simpa [upb] using h), fun _ => rfl, fun _ => rfl, fun h => p8 (by simpa [upb] using h), fun h => p9 (by simpa [upb] using h), fun h => p10 (by simpa [upb] using h), fun h => p11 (by simpa [upb] using h), fun h => p12 (by simpa [upb] using h), fun h => p15 (by simpa [upb] using h), fun h => p17 (by simpa [upb] using h), fun h => p18 (by simpa [upb] using h)⟩
  case op5 =>
    rintro bb _ w' ⟨x3, x4, x5, x6, x7, x8, x9, x10, x11, x12, x13, x14, x15, x16, x17, x18, rfl, KB, HB, R0, R1, R2, S1, Q13, F, Q15, Q16, p3, p4, p5, p6, p7, p8, p9, p10, p11, p12, p15, p17, p18⟩ hb hd K hK
    simp only [Act.put, List.setIfInBounds_toArray, List.set_cons_zero, List.set_cons_succ]
    rw [if_pos (by rfl)]
    have h16 : bb 16 = false := by cases h : bb 16 with | false => rfl | true => exact absurd (Q16 h 5 (by decide)) (by rw [hb]; decide)
    go_simp
    exact hK _ _ ⟨x3, x4, x5, x6, x7, .slice (some ad) ll.length cl, x9, x10, x11, x12, x13, x14, x15, x16, x17, x18, by simp only [Act.put, List.setIfInBounds_toArray, List.set_cons_zero, List.set_cons_succ], fun _ => KB h16, HB, fun h => R0 (by simpa [upb] using h), fun h h2 => R1 (by simpa [upb] using h) (by simpa [upb] using h2), fun h h2 => R2 (by simpa [upb] using h) (by simpa [upb] using h2), fun h h2 => S1 (by simpa [upb] using h) (by simpa [upb] using h2), fun h => by have := Q13 (by simpa [upb] using h); simp [upb, this], fun h => absurd h (by simp [upb, h16]), fun h => lz_upb (Q15 (by simpa [upb] using h)), fun h => absurd h (by simp [upb, h16]), fun h => p3 (by simpa [upb] using h), fun h => p4 (by simpa [upb] using h), fun h => p5 (by simpa [upb] using h), fun h => p6 (by simpa [upb] using h), fun h => p7 (by simpa [upb] using h), fun _ => rfl, fun h => p9 (by simpa [upb] using h), fun h => p10 (by simpa [upb] using h), fun h => p11 (by simpa [upb] using h), fun h => p12 (by simpa [upb] using h), fun h => p15 (by simpa [upb] using h), fun h => p17 (by simpa [upb] using h), fun h => p18 (by simpa [upb] using h)⟩
  case op6 =>
    rintro bb _ w' ⟨x3, x4, x5, x6, x7, x8, x9, x10, x11, x12, x13, x14, x15, x16, x17, x18, rfl, KB, HB, R0, R1, R2, S1, Q13, F, Q15, Q16, p3, p4, p5, p6, p7, p8, p9, p10, p11, p12, p15, p17, p18⟩ hb hd K hK
    simp only [Act.put, List.setIfInBounds_toArray, List.set_cons_zero, List.set_cons_succ]
    obtain rfl := (p8 (hd 5 (by decide))).symm
    rw [if_pos (by rfl)]
    have h16 : bb 16 = false := by cases h : bb 16 with | false => rfl | true => exact absurd (Q16 h 6 (by decide)) (by rw [hb]; decide)
    go_simp
    exact hK _ _ ⟨x3, x4, x5, x6, x7, .slice (some ad) ll.length cl, .int .i64 (ll.length : Int), x10, x11, x12, x13, x14, x15, x16, x17, x18, by simp only [Act.put, List.setIfInBounds_toArray, List.set_cons_zero, List.set_cons_succ], fun _ => KB h16, HB, fun h => R0 (by simpa [upb] using h), fun h h2 => R1 (by simpa [upb] using h) (by simpa [upb] using h2), fun h h2 => R2 (by simpa [upb] using h) (by simpa [upb] using h2), fun h h2 => S1 (by simpa [upb] using h) (by simpa [upb] using h2), fun h => by have := Q13 (by simpa [upb] using h); simp [upb, this], fun h => absurd h (by simp [upb, h16]), fun h => lz_upb (Q15 (by simpa [upb] using h)), fun h => absurd h (by simp [upb, h16]), fun h => p3 (by simpa [upb] using h), fun h => p4 (by simpa [upb] using h), fun h => p5 (by simpa [upb] using h), fun h => p6 (by simpa [upb] using h), fun h => p7 (by simpa [upb] using h), fun _ => rfl, fun _ => rfl, fun h => p10 (by simpa [upb] using h), fun h => p11 (by simpa [upb] using h), fun h => p12 (by simpa [upb] using h), fun h => p15 (by simpa [upb] using h), fun h => p17 (by simpa [upb] using h), fun h => p18 (by simpa [upb] using h)⟩
  case op7 =>
    rintro bb _ w' ⟨x3, x4, x5, x6, x7, x8, x9, x10, x11, x12, x13, x14, x15, x16, x17, x18, rfl, KB, HB, R0, R1, R2, S1, Q13, F, Q15, Q16, p3, p4, p5, p6, p7, p8, p9, p10, p11, p12, p15, p17, p18⟩ hb hd K hK
    simp only [Act.put, List.setIfInBounds_toArray, List.set_cons_zero, List.set_cons_succ]
    obtain rfl := (p9 (hd 6 (by decide))).symm
    rw [if_pos (by rfl)]
    have h16 : bb 16 = false := by cases h : bb 16 with | false => rfl | true => exact absurd (Q16 h 7 (by decide)) (by rw [hb]; decide)
    have hw : IntKind.i64.wrap ((ll.length : Int) - 1) = (ll.length : Int) - 1 := IntWalk.i64_in _ (by omega)
    go_simp
    exact hK _ _ ⟨x3, x4, x5, x6, x7, x8, .int .i64 (ll.length : Int), .int .i64 ((ll.length : Int) - 1), x11, x12, x13, x14, x15, x16, x17, x18, by simp only [Act.put, List.setIfInBounds_toArray, List.set_cons_zero, List.set_cons_succ], fun _ => KB h16, HB, fun h => R0 (by simpa [upb] using h), fun h h2 => R1 (by simpa [upb] using h) (by simpa [upb] using h2), fun h h2 => R2 (by simpa [upb] using h) (by simpa [upb] using h2), fun h h2 => S1 (by simpa [upb] using h) (by simpa [upb] using h2), fun h => by have := Q13 (by simpa [upb] using h); simp [upb, this], fun h => absurd h (by simp [upb, h16]), fun h => lz_upb (Q15 (by simpa [upb] using h)), fun h => absurd h (by simp [upb, h16]), fun h => p3 (by simpa [upb] using h), fun h => p4 (by simpa [upb] using h), fun h => p5 (by simpa [upb] using h), fun h => p6 (by simpa [upb] using h), fun h => p7 (by simpa [upb] using h), fun h => p8 (by simpa [upb] using h), fun _ => rfl, fun _ => rfl, fun h => p11 (by simpa [upb] using h), fun h => p12 (by simpa [upb] using h), fun h => p15 (by simpa [upb] using h), fun h => p17 (by simpa [upb] using h), fun h => p18 (by simpa [upb] using h)⟩
  case op8 =>
    rintro bb _ w' ⟨x3, x4, x5, x6, x7, x8, x9, x10, x11, x12, x13, x14, x15, x16, x17, x18, rfl, KB, HB, R0, R1, R2, S1, Q13, F, Q15, Q16, p3, p4, p5, p6, p7, p8, p9, p10, p11, p12, p15, p17, p18⟩ hb hd K hK
    simp only [Act.put, List.setIfInBounds_toArray, List.set_cons_zero, List.set_cons_succ]
    obtain rfl := (p10 (hd 7 (by decide))).symm
    rw [if_pos (by rfl)]
    have h16 : bb 16 = false := by cases h : bb 16 with | false => rfl | true => exact absurd (Q16 h 8 (by decide)) (by rw [hb]; decide)
    have hw : IntKind.i64.wrap (2 * ((ll.length : Int) - 1)) = 2 * ((ll.length : Int) - 1) := IntWalk.i64_in _ (by omega)
    go_simp
    exact hK _ _ ⟨x3, x4, x5, x6, x7, x8, x9, .int .i64 ((ll.length : Int) - 1), .int .i64 (2 * ((ll.length : Int) - 1)), x12, x13, x14, x15, x16, x17, x18, by simp only [Act.put, List.setIfInBounds_toArray, List.set_cons_zero, List.set_cons_succ], fun _ => KB h16, HB, fun h => R0 (by simpa [upb] using h), fun h h2 => R1 (by simpa [upb] using h) (by simpa [upb] using h2), fun h h2 => R2 (by simpa [upb] using h) (by simpa [upb] using h2), fun h h2 => S1 (by simpa [upb] using h) (by simpa [upb] using h2), fun h => by have := Q13 (by simpa [upb] using h); simp [upb, this], fun h => absurd h (by simp [upb, h16]), fun h => lz_upb (Q15 (by simpa [upb] using h)), fun h => absurd h (by simp [upb, h16]), fun h => p3 (by simpa [upb] using h), fun h => p4 (by simpa [upb] using h), fun h => p5 (by simpa [upb] using h), fun h => p6 (by simpa [upb] using h), fun h => p7 (by simpa [upb] using h), fun h => p8 (by simpa [upb] using h), fun h => p9 (by simpa [upb] using h), fun _ => rfl, fun _ => rfl, fun h => p12 (by simpa [upb] using h), fun h => p15 (by simpa [upb] using h), fun h => p17 (by simpa [upb] using h), fun h => p18 (by simpa [upb] using h)⟩
  case op9 =>
    rintro bb _ w' ⟨x3, x4, x5, x6, x7, x8, x9, x10, x11, x12, x13, x14, x15, x16, x17, x18, rfl, KB, HB, R0, R1, R2, S1, Q13, F, Q15, Q16, p3, p4, p5, p6, p7, p8, p9, p10, p11, p12, p15, p17, p18⟩ hb hd K hK
    simp only [Act.put, List.setIfInBounds_toArray, List.set_cons_zero, List.set_cons_succ]
    obtain rfl := (p11 (hd 8 (by decide))).symm
    rw [if_pos (by rfl)]
    have h16 : bb 16 = false := by cases h : bb 16 with | false => rfl | true => exact absurd (Q16 h 9 (by decide)) (by rw [hb]; decide)
    have hw : IntKind.u8.wrap (2 * ((ll.length : Int) - 1)) = 2 * ((ll.length : Int) - 1) := lz_u8 _ (by omega)
    go_simp
    exact hK _ _ ⟨x3, x4, x5, x6, x7, x8, x9, x10, .int .i64 (2 * ((ll.length : Int) - 1)), .int .u8 (2 * ((ll.length : Int) - 1)), x13, x14, x15, x16, x17, x18, by simp only [Act.put, List.setIfInBounds_toArray, List.set_cons_zero, List.set_cons_succ], fun _ => KB h16, HB, fun h => R0 (by simpa [upb] using h), fun h h2 => R1 (by simpa [upb] using h) (by simpa [upb] using h2), fun h h2 => R2 (by simpa [upb] using h) (by simpa [upb] using h2), fun h h2 => S1 (by simpa [upb] using h) (by simpa [upb] using h2), fun h => by have := Q13 (by simpa [upb] using h); simp [upb, this], fun h => absurd h (by simp [upb, h16]), fun h => lz_upb (Q15 (by simpa [upb] using h)), fun h => absurd h (by simp [upb, h16]), fun h => p3 (by simpa [upb] using h), fun h => p4 (by simpa [upb] using h), fun h => p5 (by simpa [upb] using h), fun h => p6 (by simpa [upb] using h), fun h => p7 (by simpa [upb] using h), fun h => p8 (by simpa [upb] using h), fun h => p9 (by simpa [upb] using h), fun h => p10 (by simpa [upb] using h), fun _ => rfl, fun _ => rfl, fun h => p15 (by simpa [upb] using h), fun h => p17 (by simpa [upb] using h), fun h => p18 (by simpa [upb] using h)⟩
  case op10 =>
    rintro bb _ w' ⟨x3, x4, x5, x6, x7, x8, x9, x10, x11, x12, x13, x14, x15, x16, x17, x18, rfl, KB, HB, R0, R1, R2, S1, Q13, F, Q15, Q16, p3, p4, p5, p6, p7, p8, p9, p10, p11, p12, p15, p17, p18⟩ hb hd K hK
    simp only [Act.put, List.setIfInBounds_toArray, List.set_cons_zero, List.set_cons_succ]
    obtain rfl := (p12 (hd 9 (by decide))).symm
    rw [if_pos (by rfl)]
    have h16 : bb 16 = false := by cases h : bb 16 with | false => rfl | true => exact absurd (Q16 h 10 (by decide)) (by rw [hb]; decide)
    go_simp
    exact hK _ _ ⟨x3, x4, x5, x6, x7, x8, x9, x10, x11, .int .u8 (2 * ((ll.length : Int) - 1)), .slice (some ⟨w'.heap.size, 0, none⟩) 1 1, x14, x15, x16, x17, x18, by simp only [Act.put, List.setIfInBounds_toArray, List.set_cons_zero, List.set_cons_succ], fun _ => (KB h16).trans (KeepBut.of_below (below_alloc (Below.refl _ _) _) _ _) (.inl rfl), below_alloc HB _, fun h => Kd.R_alloc (R0 (by simpa [upb] using h)) _, fun h h2 => ⟨Kd.R_alloc (R1 (by simpa [upb] using h) (by simpa [upb] using h2)).1 _, (R1 (by simpa [upb] using h) (by simpa [upb] using h2)).2⟩, fun h h2 => Kd.R_alloc (R2 (by simpa [upb] using h) (by simpa [upb] using h2)) _, fun _ _ => ⟨_, rfl, (KB h16).1, heap_alloc_new _ _⟩, fun h => by have := Q13 (by simpa [upb] using h); simp [upb, this], fun h => absurd h (by simp [upb, h16]), fun h => lz_upb (Q15 (by simpa [upb] using h)), fun h => absurd h (by simp [upb, h16]), fun h => p3 (by simpa [upb] using h), fun h => p4 (by simpa [upb] using h), fun h => p5 (by simpa [upb] using h), fun h => p6 (by simpa [upb] using h), fun h => p7 (by simpa [upb] using h), fun h => p8 (by simpa [upb] using h), fun h => p9 (by simpa [upb] using h), fun h => p10 (by simpa [upb] using h), fun h => p11 (by simpa [upb] using h), fun _ => rfl, fun h => p15 (by simpa [upb] using h), fun h => p17 (by simpa [upb] using h), fun h => p18 (by simpa [upb] using h)⟩
  case op11 =>
    rintro bb _ w' ⟨x3, x4, x5, x6, x7, x8, x9, x10, x11, x12, x13, x14, x15, x16, x17, x18, rfl, KB, HB, R0, R1, R2, S1, Q13, F, Q15, Q16, p3, p4, p5, p6, p7, p8, p9, p10, p11, p12, p15, p17, p18⟩ hb hd K hK
    simp only [Act.put, List.setIfInBounds_toArray, List.set_cons_zero, List.set_cons_succ]
    obtain rfl := (p7 (hd 4 (by decide))).symm
    rw [if_pos (by rfl)]
    have h16 : bb 16 = false := by cases h : bb 16 with | false => rfl | true => exact absurd (Q16 h 11 (by decide)) (by rw [hb]; decide)
    obtain ⟨gN, e13, hgN, hNN⟩ := S1 (hd 10 (by decide)) hb
    subst e13
    obtain ⟨i0, hi, hz0, hz1, hz2⟩ := info_parts info5
    have hown := Kd.own_of_R (R0 hb)
    refine wp_append_lies _ (.tmp 7) (.tmp 13) 22 rfl w0.heap.size 5 i0 (.int .u8 0) 1 1 Tryd.underlying22 hi hz0 hz1 hz2 rfl (by decide) vo out.length _ (by rfl) hown ⟨gN, 0, none⟩ 1 1 [.int .u8 (2 * ((ll.length : Int) - 1))] (by rfl) rfl (fun j u hj => by rw [add_plain]; exact lz_one_cell hNN hj) (by simp [Value.oneCell']) (by decide) (by unfold maxLen; omega) (by omega) HB.size w'.heap.size rfl ?_
    intro g1 cap w2 hown2 hgr hat hlt2
    have hR2 : Kd.R (Kd.int .u8) 5 w2 w0.heap.size (fun _ => True) (.slice (some ⟨g1, 0, none⟩) (out.length + 1) cap) (out ++ [(2 * ((ll.length : Int) - 1))]) := wire_R_of_own (by simp [encs]) hown2
    have hat2 : (Value.slice (some ⟨g1, 0, none⟩) (out.length + 1) cap).ownBlock = vo.ownBlock ∨ ∃ q, (Value.slice (some ⟨g1, 0, none⟩) (out.length + 1) cap).ownBlock = some q ∧ W.heap.size ≤ q := by rcases hat with e | e; exact .inl e.symm; exact .inr ⟨g1, rfl, e ▸ (KB h16).1⟩
    exact hK _ _ ⟨x3, x4, x5, x6, vo, x8, x9, x10, x11, x12, .slice (some ⟨gN, 0, none⟩) 1 1, .slice (some ⟨g1, 0, none⟩) (out.length + 1) cap, x15, x16, x17, x18, by simp only [Act.put, List.setIfInBounds_toArray, List.set_cons_zero, List.set_cons_succ], fun _ => (KB h16).trans (KeepBut.of_grown hgr _) (.inl rfl), pw_below_grown HB _ HB.size hgr (Kd.R_base HS.out.out), fun h => absurd h (by simp [upb]), fun _ _ => ⟨hR2, hat2⟩, fun h => absurd (Q13 (by simpa [upb] using h)) (by rw [hb]; decide), fun _ h => absurd h (by simp [upb]), fun _ => by simp [upb], fun h => absurd h (by simp [upb, h16]), fun h => lz_upb (Q15 (by simpa [upb] using h)), fun h => absurd h (by simp [upb, h16]), fun h => p3 (by simpa [upb] using h), fun h => p4 (by simpa [upb] using h), fun h => p5 (by simpa [upb] using h), fun h => p6 (by simpa [upb] using h), fun _ => rfl, fun h => p8 (by simpa [upb] using h), fun h => p9 (by simpa [upb] using h), fun h => p10 (by simpa [upb] using h), fun h => p11 (by simpa [upb] using h), fun h => p12 (by simpa [upb] using h), fun h => p15 (by simpa [upb] using h), fun h => p17 (by simpa [upb] using h), fun h => p18 (by simpa [upb] using h)⟩
  case op12 =>
    rintro bb _ w' ⟨x3, x4, x5, x6, x7, x8, x9, x10, x11, x12, x13, x14, x15, x16, x17, x18, rfl, KB, HB, R0, R1, R2, S1, Q13, F, Q15, Q16, p3, p4, p5, p6, p7, p8, p9, p10, p11, p12, p15, p17, p18⟩ hb hd K hK
    simp only [Act.put, List.setIfInBounds_toArray, List.set_cons_zero, List.set_cons_succ]
    rw [if_pos (by rfl)]
    have h16 : bb 16 = false := by cases h : bb 16 with | false => rfl | true => exact absurd (Q16 h 12 (by decide)) (by rw [hb]; decide)
    go_simp
    exact hK _ _ ⟨x3, x4, x5, x6, x7, x8, x9, x10, x11, x12, x13, x14, .slice (some ad) ll.length cl, x16, x17, x18, by simp only [Act.put, List.setIfInBounds_toArray, List.set_cons_zero, List.set_cons_succ], fun _ => KB h16, HB, fun h => R0 (by simpa [upb] using h), fun h h2 => R1 (by simpa [upb] using h) (by simpa [upb] using h2), fun h h2 => R2 (by simpa [upb] using h) (by simpa [upb] using h2), fun h h2 => S1 (by simpa [upb] using h) (by simpa [upb] using h2), fun h => by have := Q13 (by simpa [upb] using h); simp [upb, this], fun h => absurd h (by simp [upb, h16]), fun h => lz_upb (Q15 (by simpa [upb] using h)), fun h => absurd h (by simp [upb, h16]), fun h => p3 (by simpa [upb] using h), fun h => p4 (by simpa [upb] using h), fun h => p5 (by simpa [upb] using h), fun h => p6 (by simpa [upb] using h), fun h => p7 (by simpa [upb] using h), fun h => p8 (by simpa [upb] using h), fun h => p9 (by simpa [upb] using h), fun h => p10 (by simpa [upb] using h), fun h => p11 (by simpa [upb] using h), fun h => p12 (by simpa [upb] using h), fun _ => rfl, fun h => p17 (by simpa [upb] using h), fun h => p18 (by simpa [upb] using h)⟩
  case op13 =>
    rintro bb _ w' ⟨x3, x4, x5, x6, x7, x8, x9, x10, x11, x12, x13, x14, x15, x16, x17, x18, rfl, KB, HB, R0, R1, R2, S1, Q13, F, Q15, Q16, p3, p4, p5, p6, p7, p8, p9, p10, p11, p12, p15, p17, p18⟩ hb hd K hK
    simp only [Act.put, List.setIfInBounds_toArray, List.set_cons_zero, List.set_cons_succ]
    obtain rfl := (p15 (hd 12 (by decide))).symm
    rw [if_pos (by rfl)]
    have h16 : bb 16 = false := by cases h : bb 16 with | false => rfl | true => exact absurd (Q16 h 13 (by decide)) (by rw [hb]; decide)
    have hR1 := R1 (hd 11 (by decide)) hb
    obtain ⟨i0, hi, hz0, hz1, hz2⟩ := info_parts info5
    have hown := Kd.own_of_R hR1.1
    have hown1 := hR1.2
    rw [List.length_append, List.length_singleton] at hown
    refine wp_append_lies _ (.tmp 14) (.tmp 15) 22 rfl w0.heap.size 5 i0 (.int .u8 0) 1 1 Tryd.underlying22 hi hz0 hz1 hz2 rfl (by decide) x14 (out.length + 1) _ (by rfl) hown ad ll.length cl (ll.map (Value.int .u8)) (by rfl) (by simp) (fun j u hj => wire_read (some ad) ll w' (Kd.C_below HC.out HB) ad rfl j u hj) (by simp [Value.oneCell']) (by omega) (by unfold maxLen; omega) (by omega) HB.size w'.heap.size rfl ?_
    intro g1 cap w2 hown2 hgr hat hlt2
    have hR3 : Kd.R (Kd.int .u8) 5 w2 w0.heap.size (fun _ => True) (.slice (some ⟨g1, 0, none⟩) (out.length + 1 + ll.length) cap) (out ++ [(2 * ((ll.length : Int) - 1))] ++ ll) := wire_R_of_own (by simp [encs]) hown2
    exact hK _ _ ⟨x3, x4, x5, x6, x7, x8, x9, x10, x11, x12, x13, x14, .slice (some ad) ll.length cl, .slice (some ⟨g1, 0, none⟩) (out.length + 1 + ll.length) cap, x17, x18, by simp only [Act.put, List.setIfInBounds_toArray, List.set_cons_zero, List.set_cons_succ], fun _ => (KB h16).trans (KeepBut.of_grown hgr _) hown1, pw_below_grown HB _ HB.size hgr (Kd.R_base hR1.1), fun h => absurd (hd 11 (by decide)) (by simpa [upb] using h), fun _ h => absurd h (by simp [upb]), fun _ _ => hR3, fun _ h => absurd (hd 11 (by decide)) (by simpa [upb] using h), fun _ => by have := hd 11 (by decide); simp [upb, this], fun h => absurd h (by simp [upb, h16]), fun h => lz_upb (Q15 (by simpa [upb] using h)), fun h => absurd h (by simp [upb, h16]), fun h => p3 (by simpa [upb] using h), fun h => p4 (by simpa [upb] using h), fun h => p5 (by simpa [upb] using h), fun h => p6 (by simpa [upb] using h), fun h => p7 (by simpa [upb] using h), fun h => p8 (by simpa [upb] using h), fun h => p9 (by simpa [upb] using h), fun h => p10 (by simpa [upb] using h), fun h => p11 (by simpa [upb] using h), fun h => p12 (by simpa [upb] using h), fun _ => rfl, fun h => p17 (by simpa [upb] using h), fun h => p18 (by simpa [upb] using h)⟩
  case op14 =>
    rintro bb _ w' ⟨x3, x4, x5, x6, x7, x8, x9, x10, x11, x12, x13, x14, x15, x16, x17, x18, rfl, KB, HB, R0, R1, R2, S1, Q13, F, Q15, Q16, p3, p4, p5, p6, p7, p8, p9, p10, p11, p12, p15, p17, p18⟩ hb hd K hK
    simp only [Act.put, List.setIfInBounds_toArray, List.set_cons_zero, List.set_cons_succ]
    obtain rfl := (p3 (hd 0 (by decide))).symm
    rw [if_pos (by rfl)]
    have h16 : bb 16 = false := by cases h : bb 16 with | false => rfl | true => exact absurd (Q16 h 14 (by decide)) (by rw [hb]; decide)
    have hG : lz_Blk w' g A b_.length c at_ gm vo plain := (KB h16).blk HS.out.blk (by have := blk_lt HS.out.blk; omega) hgrow
    have hc : w'.cell? ⟨g, 0, none⟩ = _ := blk_cell hG 0
    go_simp
    exact hK _ _ ⟨.pointer (some ⟨g, 0, none⟩), x4, x5, x6, x7, x8, x9, x10, x11, x12, x13, x14, x15, x16, .pointer (some ⟨g, 0, none⟩), x18, by simp only [Act.put, List.setIfInBounds_toArray, List.set_cons_zero, List.set_cons_succ], fun _ => KB h16, HB, fun h => R0 (by simpa [upb] using h), fun h h2 => R1 (by simpa [upb] using h) (by simpa [upb] using h2), fun h h2 => R2 (by simpa [upb] using h) (by simpa [upb] using h2), fun h h2 => S1 (by simpa [upb] using h) (by simpa [upb] using h2), fun h => by have := Q13 (by simpa [upb] using h); simp [upb, this], fun h => absurd h (by simp [upb, h16]), fun h => lz_upb (Q15 (by simpa [upb] using h)), fun h => absurd h (by simp [upb, h16]), fun _ => rfl, fun h => p4 (by simpa [upb] using h), fun h => p5 (by simpa [upb] using h), fun h => p6 (by simpa [upb] using h), fun h => p7 (by simpa [upb] using h), fun h => p8 (by simpa [upb] using h), fun h => p9 (by simpa [upb] using h), fun h => p10 (by simpa [upb] using h), fun h => p11 (by simpa [upb] using h), fun h => p12 (by simpa [upb] using h), fun h => p15 (by simpa [upb] using h), fun _ => rfl, fun h => p18 (by simpa [upb] using h)⟩
  case op15 =>
    rintro bb _ w' ⟨x3, x4, x5, x6, x7, x8, x9, x10, x11, x12, x13, x14, x15, x16, x17, x18, rfl, KB, HB, R0, R1, R2, S1, Q13, F, Q15, Q16, p3, p4, p5, p6, p7, p8, p9, p10, p11, p12, p15, p17, p18⟩ hb hd K hK
    simp only [Act.put, List.setIfInBounds_toArray, List.set_cons_zero, List.set_cons_succ]
    obtain rfl := (p17 (hd 14 (by decide))).symm
    rw [if_pos (by rfl)]
    have h16 : bb 16 = false := by cases h : bb 16 with | false => rfl | true => exact absurd (Q16 h 15 (by decide)) (by rw [hb]; decide)
    go_simp
    exact hK _ _ ⟨x3, x4, x5, x6, x7, x8, x9, x10, x11, x12, x13, x14, x15, x16, .pointer (some ⟨g, 0, none⟩), .pointer (some ⟨g, 3, none⟩), by simp only [Act.put, List.setIfInBounds_toArray, List.set_cons_zero, List.set_cons_succ], fun _ => KB h16, HB, fun h => R0 (by simpa [upb] using h), fun h h2 => R1 (by simpa [upb] using h) (by simpa [upb] using h2), fun h h2 => R2 (by simpa [upb] using h) (by simpa [upb] using h2), fun h h2 => S1 (by simpa [upb] using h) (by simpa [upb] using h2), fun h => by have := Q13 (by simpa [upb] using h); simp [upb, this], fun h => absurd h (by simp [upb, h16]), fun _ => lz_upb (hd 14 (by decide)), fun h => absurd h (by simp [upb, h16]), fun h => p3 (by simpa [upb] using h), fun h => p4 (by simpa [upb] using h), fun h => p5 (by simpa [upb] using h), fun h => p6 (by simpa [upb] using h), fun h => p7 (by simpa [upb] using h), fun h => p8 (by simpa [upb] using h), fun h => p9 (by simpa [upb] using h), fun h => p10 (by simpa [upb] using h), fun h => p11 (by simpa [upb] using h), fun h => p12 (by simpa [upb] using h), fun h => p15 (by simpa [upb] using h), fun _ => rfl, fun _ => rfl⟩
  case op16 =>
    rintro bb _ w' ⟨x3, x4, x5, x6, x7, x8, x9, x10, x11, x12, x13, x14, x15, x16, x17, x18, rfl, KB, HB, R0, R1, R2, S1, Q13, F, Q15, Q16, p3, p4, p5, p6, p7, p8, p9, p10, p11, p12, p15, p17, p18⟩ hb hd K hK
    simp only [Act.put, List.setIfInBounds_toArray, List.set_cons_zero, List.set_cons_succ]
    obtain rfl := (p18 (hd 15 (by decide))).symm
    rw [if_pos (by rfl)]
    have hR3 := R2 (hd 13 (by decide)) hb
    have hG : lz_Blk w' g A b_.length c at_ gm vo plain := (KB hb).blk HS.out.blk (by have := blk_lt HS.out.blk; omega) hgrow
    have hPB := (KB hb).blk HP.out (by have := blk_lt HP.out; omega) hprow
    have hfin := lz_St.told HS.out (KB hb) hG HB hR3 hPB
    obtain ⟨g1, nl, cap1, hx16⟩ := lz_R_form hR3 (by simp; omega)
    subst hx16
    have hc3 : w'.cell? ⟨g, 3, none⟩ = some vo := blk_cell hG 3
    have hf3 : w'.frozen? ⟨g, 3, none⟩ = false := blk_frozen hG 3
    go_simp
    exact hK _ _ ⟨x3, x4, x5, x6, x7, x8, x9, x10, x11, x12, x13, x14, x15, .slice (some ⟨g1, 0, none⟩) nl cap1, x17, .pointer (some ⟨g, 3, none⟩), by simp only [Act.put, List.setIfInBounds_toArray, List.set_cons_zero, List.set_cons_succ], fun h => absurd h (by simp [upb]), HB.setCell HS.out.gb _, fun h => absurd (hd 11 (by decide)) (by simpa [upb] using h), fun _ h => absurd (hd 13 (by decide)) (by simpa [upb] using h), fun _ h => absurd h (by simp [upb]), fun _ h => absurd (hd 11 (by decide)) (by simpa [upb] using h), fun _ => by have := hd 11 (by decide); simp [upb, this], fun _ => hfin, fun h => lz_upb (Q15 (by simpa [upb] using h)), fun _ j hj => lz_upb (lz_q16 (fun j hj => hd j (lz_mem _ (by decide) j hj)) (Q15 (hd 15 (by decide))) j hj), fun h => p3 (by simpa [upb] using h), fun h => p4 (by simpa [upb] using h), fun h => p5 (by simpa [upb] using h), fun h => p6 (by simpa [upb] using h), fun h => p7 (by simpa [upb] using h), fun h => p8 (by simpa [upb] using h), fun h => p9 (by simpa [upb] using h), fun h => p10 (by simpa [upb] using h), fun h => p11 (by simpa [upb] using h), fun h => p12 (by simpa [upb] using h), fun h => p15 (by simpa [upb] using h), fun h => p17 (by simpa [upb] using h), fun _ => rfl⟩
  case done =>
    rintro bb _ w' hb ⟨x3, x4, x5, x6, x7, x8, x9, x10, x11, x12, x13, x14, x15, x16, x17, x18, rfl, KB, HB, R0, R1, R2, S1, Q13, F, Q15, Q16, p3, p4, p5, p6, p7, p8, p9, p10, p11, p12, p15, p17, p18⟩
    obtain rfl := (p3 (hb 0 (by decide))).symm
    obtain rfl := (p4 (hb 1 (by decide))).symm
    obtain rfl := (p5 (hb 2 (by decide))).symm
    obtain rfl := (p6 (hb 3 (by decide))).symm
    obtain rfl := (p7 (hb 4 (by decide))).symm
    obtain rfl := (p8 (hb 5 (by decide))).symm
    obtain rfl := (p9 (hb 6 (by decide))).symm
    obtain rfl := (p10 (hb 7 (by decide))).symm
    obtain rfl := (p11 (hb 8 (by decide))).symm
    obtain rfl := (p12 (hb 9 (by decide))).symm
    obtain rfl := (p15 (hb 12 (by decide))).symm
    obtain rfl := (p17 (hb 14 (by decide))).symm
    obtain rfl := (p18 (hb 15 (by decide))).symm
    simp only [Act.put, List.setIfInBounds_toArray, List.set_cons_zero, List.set_cons_succ]
    have k3 := F (hb 16 (by decide))
    clear KB HB R0 R1 R2 S1 Q13 F Q15 Q16 hb
    go_wp2_with fail
    go_end0
    exact ⟨rfl, _, k3⟩
end Go.Proofs.YtigcgdhihaibbaaDoor.PLz
