import Derived.Test.YtigcgdhihaibbaaDoorZ9
namespace Go.Proofs.YtigcgdhihaibbaaDoor.PLz
open Go.RowKit Go.Proofs.YtigcgdhihaibbaaDoorW.PrintWords Go.Proofs.YtigcgdhihaibbaaDoorW.PrintLast Go.Proofs.YtigcgdhihaibbaaDoorW.PrintMore
attribute [local go_sem] max2_int min2_int max_two min_two max_three min_three max_four min_four   -- for this text's walks alone
set_option linter.unusedVariables false
set_option maxRecDepth 20000
set_option linter.unusedSimpArgs false

theorem lz_u64 (x : Int) (h : 0 ≤ x ∧ x < 18446744073709551616) : IntKind.u64.wrap x = x := by
  rw [IntKind.wrap_u64]; omega
theorem lz_mem23 (l : List Nat) (h : [0, 1, 2, 3, 4, 5, 6, 7, 8, 9, 10, 11, 12, 13, 14, 15, 16, 17, 18, 19, 20, 22].all (fun j => decide (j ∈ l)) = true) (j : Nat) (hj : j ∈ [0, 1, 2, 3, 4, 5, 6, 7, 8, 9, 10, 11, 12, 13, 14, 15, 16, 17, 18, 19, 20, 22]) : j ∈ l := by
  simpa using List.all_eq_true.1 h j hj
theorem lz_q23 {b : Nat → Bool} (h : ∀ j, j ∈ [0, 1, 2, 3, 4, 5, 6, 7, 8, 9, 10, 11, 12, 13, 14, 15, 16, 17, 18, 19, 20, 22] → b j = true) (h2 : b 21 = true) (j : Nat) (hj : j < 23) : b j = true := by
  by_cases e : j = 21
  · rw [e]; exact h2
  · exact h j (by simp; omega)
theorem lz_put_f (l : List Int) (n : Int) (h : 0 ≤ n ∧ n < 18446744073709551616) (hl : l.length ≤ 140000000) : wire_Put.f l n = some (l ++ wire_vb 9 n) := by
  unfold wire_Put.f
  rw [if_pos ⟨h.1, h.2, by omega⟩]
/-- what came out is stored: only its row and new blocks were written -/
theorem lz_St.told1 {w0 W w' : World} {g gm : Nat} {A : Option Addr} {c : Nat} {b : List Int} {at_ plain : Nat} {vo v' : Value} {out out' : List Int} {L : List ((Int × Int × Int) × Value)} (h : lz_St w0 W g gm A c b at_ plain vo out L)
    (hK : KeepBut W w' W.heap.size vo.ownBlock) (hG : lz_Blk w' g A b.length c at_ gm vo plain) (hB : Below w0.heap.size w0 w') (hR : Kd.R (Kd.int .u8) 5 w' w0.heap.size (fun _ => True) v' out') :
    lz_St w0 (w'.setCell ⟨g, 3, none⟩ v') g gm A c b at_ plain v' out' L := by
  have hgm : gm < W.heap.size := lz_Map_lt h.seen.map
  have hgmr : some gm ≠ vo.ownBlock := fun e => lz_gm_row h.seen.map h.out e.symm
  have hmap : lz_Map w' gm L := lz_Map_next h.seen.map (hK.2 gm hgm (by omega) hgmr)
  have hrow : ∀ k, Kd.R (Kd.int .i64) 3 w' w0.heap.size (fun _ => True) (lz_get L k) (lz_ints (lz_poss b at_ k)) := fun k => by
    refine Kd.R_mono (Kd.R_step (Kd.R_bound (h.seen.row k)) (fun q hq hlt => hK.2 q hlt (by omega) ?_)) (fun _ _ => trivial)
    intro e
    obtain ⟨_, _, _, t, ht, cells, hc⟩ := hq
    obtain ⟨_, _, _, t', ht', cells', hc'⟩ := (Kd.R_bound h.out).1 q e.symm
    rw [hc] at hc'
    injection hc' with h1
    injection h1 with h2 h3 h4
    have a : t = 3 := by simpa [Kd.E, Kd.int, Kd.scalar] using ht
    have b : t' = 5 := by simpa [Kd.E, Kd.int, Kd.scalar] using ht'
    rw [a, b] at h3
    exact absurd h3 (by decide)
  refine ⟨by unfold lz_Blk; simpa using blk_set hG 3 v', hB.setCell h.gb _, ⟨lz_Map_next hmap (Below.heap_setCell _ _ _ _ (fun e => lz_g_gm hG hmap e.symm)), fun k => ?_, h.seen.apart⟩, ?_, h.gb, h.gmb⟩
  · exact Kd.R_mono (Kd.R_set (hrow k) hG (by simp [Kd.E, Kd.int, Kd.scalar]) 3 _) (fun _ _ => trivial)
  · exact Kd.R_mono (Kd.R_set hR hG (by simp [Kd.E, Kd.int, Kd.scalar]) 3 _) (fun _ _ => trivial)
theorem lz_same_spec (b : List Int) (p at_ : Nat) : ∀ (f n : Nat), at_ + n ≤ b.length → (∀ i, i < n → b.getD (p + i) 0 = b.getD (at_ + i) 0) → n ≤ lz_same b p at_ f n ∧ at_ + lz_same b p at_ f n ≤ b.length ∧ ∀ i, i < lz_same b p at_ f n → b.getD (p + i) 0 = b.getD (at_ + i) 0
  | 0, n, h1, h2 => ⟨Nat.le_refl _, h1, h2⟩
  | f + 1, n, h1, h2 => by
    rw [lz_same]
    split
    · rename_i hc
      obtain ⟨a1, a2, a3⟩ := lz_same_spec b p at_ f (n + 1) (by omega) (fun i hi => by
        by_cases e : i = n
        · rw [e]; exact hc.2.2
        · exact h2 i (by omega))
      exact ⟨by omega, a2, a3⟩
    · exact ⟨Nat.le_refl _, h1, h2⟩
theorem lz_same_three {b : List Int} {p at_ : Nat} (h3 : at_ + 3 ≤ b.length) (hk : lz_key b p = lz_key b at_) : 3 ≤ lz_same b p at_ 67 0 := by
  unfold lz_key at hk
  simp only [Prod.mk.injEq] at hk
  obtain ⟨e0, e1, e2⟩ := hk
  rw [lz_same_next (f := 66) ⟨by omega, by omega, by simpa using e0⟩, lz_same_next (f := 65) ⟨by omega, by omega, by simpa using e1⟩, lz_same_next (f := 64) ⟨by omega, by omega, by simpa using e2⟩]
  exact (lz_same_spec b p at_ 64 3 (by omega) (fun i hi => by
    rcases (by omega : i = 0 ∨ i = 1 ∨ i = 2) with rfl | rfl | rfl
    · simpa using e0
    · exact e1
    · exact e2)).1
/-- what a best earlier place is -/
def lz_isBest (b : List Int) (at_ q n : Nat) : Prop := q < at_ ∧ 3 ≤ n ∧ n ≤ 66 ∧ at_ + n ≤ b.length ∧ at_ - q ≤ 4096 ∧ (3 < n ∨ at_ - q ≤ 128) ∧ ∀ i, i < n → b.getD (q + i) 0 = b.getD (at_ + i) 0
theorem lz_bestF_ok {b : List Int} {at_ : Nat} {l : List Nat} (h3 : at_ + 3 ≤ b.length) (hl : ∀ j, j < l.length → l.getD j 0 < at_ ∧ lz_key b (l.getD j 0) = lz_key b at_) :
    ∀ (i q n : Nat), i ≤ l.length → (n = 0 ∨ lz_isBest b at_ q n) → (lz_bestF b at_ l i q n).2 = 0 ∨ lz_isBest b at_ (lz_bestF b at_ l i q n).1 (lz_bestF b at_ l i q n).2
  | 0, q, n, _, h => h
  | i + 1, q, n, hi, h => by
    rw [lz_bestF]
    split
    · exact h
    · rename_i h1
      split
      · rename_i h2
        obtain ⟨k1, k2⟩ := hl i (by omega)
        have s3 := lz_same_three h3 k2
        obtain ⟨s1, s2, s4⟩ := lz_same_spec b (l.getD i 0) at_ 67 0 (by omega) (fun i hi => by omega)
        exact lz_bestF_ok h3 hl i _ _ (by omega) (.inr ⟨k1, s3, lz_same_le b _ _ _ _ (by omega), s2, by omega, h2.2, s4⟩)
      · exact lz_bestF_ok h3 hl i _ _ (by omega) h
theorem lz_best_ok (b : List Int) (at_ : Nat) : (lz_best b at_).2 = 0 ∨ lz_isBest b at_ (lz_best b at_).1 (lz_best b at_).2 := by
  unfold lz_best
  split
  · rename_i h3
    refine lz_bestF_ok h3 (fun j hj => ?_) _ _ _ (Nat.le_refl _) (.inl rfl)
    have hm : (lz_poss b at_ (lz_key b at_)).getD j 0 ∈ lz_poss b at_ (lz_key b at_) := by rw [List.getD_eq_getElem?_getD, List.getElem?_eq_getElem hj]; exact List.getElem_mem hj
    obtain ⟨m1, m2⟩ := List.mem_filter.1 hm
    simp at m1 m2
    exact ⟨by simpa using m1, by simpa using m2.2⟩
  · exact .inl rfl
def lz_loop (w0 W : World) (g gm : Nat) (A : Option Addr) (c : Nat) (b : List Int) (R : List Int) : Prop :=
  ∃ at_ plain vo out L f, lz_St w0 W g gm A c b at_ plain vo out L ∧ plain ≤ at_ ∧ at_ ≤ b.length ∧ out.length ≤ 4 * plain ∧ b.length < f + at_ ∧ lz_packF b f at_ plain out = R
def lz_atOf (W : World) (g : Nat) : Nat := match W.cell? ⟨g, 1, none⟩ with | some (.int _ p) => p.toNat | _ => 0
theorem lz_at_at {W : World} {g gm m c at_ plain : Nat} {A : Option Addr} {vo : Value} (h : lz_Blk W g A m c at_ gm vo plain) : lz_atOf W g = at_ := by
  have : W.cell? ⟨g, 1, none⟩ = some (.int .i64 at_) := blk_cell h 1
  unfold lz_atOf
  rw [this]
  simp
theorem lz_take_eq {b : List Int} {at_ plain q n : Nat} {out out2 : List Int} (hlt : at_ < b.length) (hq : lz_best b at_ = (q, n)) (hn : ¬ n = 0) (ho : out ++ lz_run b.length (lz_cut b plain at_) = out2) :
    ∀ f, lz_packF b (f + 1) at_ plain out = lz_packF b f (at_ + n) (at_ + n) (out2 ++ [2 * ((n : Int) - 3) + 1] ++ wire_vb 9 ((at_ : Int) - q - 1)) := by
  intro f
  rw [lz_packF, if_pos hlt, hq]
  simp only
  rw [if_neg hn, ho]
theorem lz_end_eq {b : List Int} {at_ plain f : Nat} {out : List Int} (hlt : ¬ at_ < b.length) : lz_packF b (f + 1) at_ plain out = out ++ lz_run b.length (lz_cut b plain at_) := by
  rw [lz_packF, if_neg hlt]
theorem lz_loop_pass {w0 W w2 : World} {g gm : Nat} {A : Option Addr} {c : Nat} {b : List Int} {at_ plain q n f : Nat} {vo : Value} {out R : List Int} {L : List ((Int × Int × Int) × Value)} (h : lz_St w0 w2 g gm A c b (at_ + 1) plain vo out L) (hq : lz_best b at_ = (q, n)) (hn : n = 0) (hpl : plain ≤ at_) (hat : at_ ≤ b.length) (ho : out.length ≤ 4 * plain) (hlt : at_ < b.length) (hf : b.length < f + 1 + at_) (hF : lz_packF b (f + 1) at_ plain out = R) (hM : lz_atOf W g = at_) :
    Hid (lz_loop w0 w2 g gm A c b R) ∧ b.length - lz_atOf w2 g < b.length - lz_atOf W g := by
  refine ⟨Lib.hid ⟨at_ + 1, plain, vo, out, L, f, h, by omega, by omega, ho, by omega, ?_⟩, by rw [lz_at_at h.blk, hM]; omega⟩
  rw [← hF, lz_packF, if_pos hlt, hq]
  simp only
  rw [if_pos hn]
theorem lz_vb_len (n : Int) : (wire_vb 9 n).length ≤ 10 := (wire_vb_len 9 n).2
theorem lz_loop_take {w0 W w3 : World} {g gm : Nat} {A : Option Addr} {c : Nat} {b : List Int} {at_ at2 plain plain0 q n f : Nat} {v : Value} {out out0 R : List Int} {L : List ((Int × Int × Int) × Value)} (h : lz_St w0 w3 g gm A c b at2 plain v (out ++ [2 * ((n : Int) - 3) + 1] ++ wire_vb 9 ((at_ : Int) - q - 1)) L) (ha : at_ + n = at2) (hb : lz_isBest b at_ q n) (hat : at_ ≤ b.length) (ho : out.length ≤ 4 * at_) (hlt : at_ < b.length) (hf : b.length < f + 1 + at_) (hF : lz_packF b (f + 1) at_ plain0 out0 = R)
    (hE : ∀ f, lz_packF b (f + 1) at_ plain0 out0 = lz_packF b f (at_ + n) (at_ + n) (out ++ [2 * ((n : Int) - 3) + 1] ++ wire_vb 9 ((at_ : Int) - q - 1))) (hM : lz_atOf W g = at_) :
    Hid (lz_loop w0 (w3.setCell ⟨g, 4, none⟩ (.int .i64 at2)) g gm A c b R) ∧ b.length - lz_atOf (w3.setCell ⟨g, 4, none⟩ (.int .i64 at2)) g < b.length - lz_atOf W g := by
  have h2 := h.plainTo at2
  obtain ⟨hb1, hb2, hb3, hb4, _⟩ := hb
  have hv := lz_vb_len ((at_ : Int) - q - 1)
  refine ⟨Lib.hid ⟨at2, at2, v, _, L, f, h2, Nat.le_refl _, by omega, ?_, by omega, ?_⟩, by rw [lz_at_at h2.blk, hM]; omega⟩
  · simp only [List.length_append, List.length_singleton]; omega
  · rw [← hF, hE, ha]
def lz_PackPost (w w' : World) (v : Value) (R : List Int) : Prop := Kd.R (Kd.int .u8) 5 w' w.heap.size (fun _ => True) v R ∧ Below w.heap.size w w'
set_option maxHeartbeats 8000000 in
theorem lz_Pack_calls (A : Option Addr) (c : Nat) (b_ : List Int) (w0 : World) (hC : Kd.C (Kd.int .u8) w0 A b_.length b_) (hc : b_.length ≤ c) (hl : b_.length ≤ 1000000) (hkb : ∀ x ∈ b_, 0 ≤ x ∧ x < 256) (R : List Int) (hR : lz_pack b_ = R) :
    Calls Tryd.prog 13 #[.slice A b_.length c] w0 fun e w' => ∃ v : Value, e = .returned v ∧ lz_PackPost w0 w' v R := by
  have h0 : (w0.alloc (.map #[] 0)).heap[w0.heap.size]? = some (.map #[] 0) := heap_alloc_new _ _
  have hblk : ((w0.alloc (.map #[] 0)).alloc (.cells #[.slice A b_.length c, .int .i64 0, .map (some w0.heap.size), .slice none 0 0, .int .i64 0] 69)).heap[w0.heap.size + 1]? = some (.cells #[.slice A b_.length c, .int .i64 0, .map (some w0.heap.size), .slice none 0 0, .int .i64 0] 69 (0, 0)) := by
    have := heap_alloc_new (w0.alloc (.map #[] 0)) (.cells #[.slice A b_.length c, .int .i64 0, .map (some w0.heap.size), .slice none 0 0, .int .i64 0] 69)
    simpa using this
  have hmap0 : ((w0.alloc (.map #[] 0)).alloc (.cells #[.slice A b_.length c, .int .i64 0, .map (some w0.heap.size), .slice none 0 0, .int .i64 0] 69)).heap[w0.heap.size]? = some (.map #[] 0) := (Below.heap_alloc _ _ _ (by simp)).trans h0
  have HI : Hid (lz_loop w0 ((w0.alloc (.map #[] 0)).alloc (.cells #[.slice A b_.length c, .int .i64 0, .map (some w0.heap.size), .slice none 0 0, .int .i64 0] 69)) (w0.heap.size + 1) w0.heap.size A c b_ R) := Lib.hid
    ⟨0, 0, .slice none 0 0, [], [], b_.length + 1, ⟨hblk, below_alloc (below_alloc (Below.refl _ _) _) _, ⟨⟨#[], 0, hmap0, rfl, by simp, by simp, by simp, by simp⟩, fun k => Kd.R_nil _ _ _ _ _, fun k k' _ => .inl rfl⟩, Kd.R_nil _ _ _ _ _, by omega, Nat.le_refl _⟩, by omega, by omega, by simp, by omega, hR⟩
  have HC := Lib.hid hC
  have HK := Lib.hid hkb
  clear h0 hblk hmap0 hR hC hkb
  have hmm := @run_makeMap Tryd.prog
  go_enter Tryd.func13, Tryd.ntmps13
  go_wp2_with fail
  obtain ⟨g, hg⟩ : ∃ g, w0.heap.size + 1 = g := ⟨_, rfl⟩
  obtain ⟨gm, hgm⟩ : ∃ gm, w0.heap.size = gm := ⟨_, rfl⟩
  rw [hg, hgm] at HI ⊢
  clear hg hgm hmm
  go_loopw [4] (fun _ wr => Hid (lz_loop w0 wr g gm A c b_ R)) (fun _ wr => b_.length - lz_atOf wr g)
  case atStart => exact HI
  case round =>
    have HP := hrel
    obtain ⟨at_, plain0, vo0, out0, L, f, hS, hpl, hat, ho, hf, hF⟩ := HP.out
    have k1 : wr.cell? ⟨g, 1, none⟩ = some (.int .i64 at_) := blk_cell hS.blk 1
    have HM : Hid (lz_atOf wr g = at_) := Lib.hid (lz_at_at hS.blk)
    have HS0 := Lib.hid hS
    have HF := Lib.hid hF
    clear hS hF
    by_cases hlt : at_ < b_.length
    · obtain ⟨f, rfl⟩ : ∃ f', f = f' + 1 := ⟨f - 1, by omega⟩
      go_wp2_with fail
      refine (lz_best_calls wr w0.heap.size g gm A c b_ at_ plain0 vo0 L HS0.out.blk (Kd.C_below HC.out HS0.out.hb) hc hlt hl HS0.out.seen HK.out).mono ?_; rintro e w1 ⟨rfl, hB1⟩
      have hbq := lz_best_ok b_ at_
      obtain ⟨Q, hQ⟩ : ∃ Q, lz_best b_ at_ = Q := ⟨_, rfl⟩
      obtain ⟨q, n⟩ := Q
      have HQ := Lib.hid hQ
      rw [hQ] at hbq ⊢
      have hbq : n = 0 ∨ lz_isBest b_ at_ q n := hbq
      have HS1 := Lib.hid (HS0.out.next hB1)
      clear hQ hB1
      by_cases hn : n = 0
      · have d0 : ((n : Int) == 0) = true := by simp [hn]
        have G1 : Calls Tryd.prog 29 #[.pointer (some ⟨g, 0, none⟩), .int .i64 1] w1 fun e w' => e = .returned (.tuple #[]) ∧ ∃ L, lz_St w0 w' g gm A c b_ (at_ + 1) plain0 vo0 out0 L := lz_goes_calls w0 w1 g gm A c b_ at_ plain0 1 vo0 out0 L HC.out hc hl HK.out (by omega) HS1.out
        have HG1 := Lib.hid G1
        have HN := Lib.hid hn
        clear G1 hn hbq
        go_wp2_with fail
        refine HG1.out.mono ?_; rintro e w2 ⟨rfl, L2, hS2⟩
        have HS2 := Lib.hid hS2
        clear hS2
        go_wp2_with fail
        exact lz_loop_pass HS2.out HQ.out HN.out hpl hat ho hlt hf HF.out HM.out
      · have d0 : ((n : Int) == 0) = false := by simp [hn]
        have hbq := hbq.resolve_left hn
        obtain ⟨hb1, hb2, hb3, hb4, hb5, hb6, _⟩ := id hbq
        have HBQ := Lib.hid hbq
        clear hbq hb6
        go_wp2_with fail
        refine (lz_literals_calls w0 w1 g gm A c b_ at_ plain0 vo0 out0 _ L HC.out hc hl hat hpl ho HS1.out rfl).mono ?_; rintro e W ⟨rfl, plain, vo, hS2, ho2⟩
        obtain ⟨out, hout⟩ : ∃ out, out0 ++ lz_run b_.length (lz_cut b_ plain0 at_) = out := ⟨_, rfl⟩
        rw [hout] at hS2 ho2
        have HOUT := Lib.hid (lz_take_eq hlt HQ.out hn hout)
        have hgrow : some g ≠ vo.ownBlock := lz_g_out hS2.blk hS2.out
        have HS := Lib.hid hS2
        clear hS2 hout hpl ho
        go_wp2_with fail
        refine wp_region_inv (fun a0 w_0 b a' w' => ∃ x28 x29 x30 x31 x32 x33 x34 x35 x36 x37 x38 x39 x40 x41 x42 x43 x44 x45 x46 x47 x48 x49 x50 : Value, a' = (((((((((((((((((((((((a0.put (some 28) x28).put (some 29) x29).put (some 30) x30).put (some 31) x31).put (some 32) x32).put (some 33) x33).put (some 34) x34).put (some 35) x35).put (some 36) x36).put (some 37) x37).put (some 38) x38).put (some 39) x39).put (some 40) x40).put (some 41) x41).put (some 42) x42).put (some 43) x43).put (some 44) x44).put (some 45) x45).put (some 46) x46).put (some 47) x47).put (some 48) x48).put (some 49) x49).put (some 50) x50) ∧ (b 23 = false → KeepBut W w' W.heap.size vo.ownBlock) ∧ Below w0.heap.size w0 w' ∧ (b 11 = false → Kd.R (Kd.int .u8) 5 w' w0.heap.size (fun _ => True) vo out) ∧ (b 11 = true → b 20 = false → Kd.R (Kd.int .u8) 5 w' w0.heap.size (fun _ => True) x39 (out ++ [(2 * ((n : Int) - 3) + 1)])) ∧ (b 20 = true → b 23 = false → Kd.R (Kd.int .u8) 5 w' w0.heap.size (fun _ => True) x48 (out ++ [(2 * ((n : Int) - 3) + 1)] ++ wire_vb 9 ((at_ : Int) - q - 1))) ∧ (b 10 = true → b 11 = false → ∃ gN, x38 = .slice (some ⟨gN, 0, none⟩) 1 1 ∧ W.heap.size ≤ gN ∧ w'.heap[gN]? = some (.cells #[.int .u8 (2 * ((n : Int) - 3) + 1)] 5 (0, 0))) ∧ (b 20 = true → b 11 = true) ∧ (b 23 = true → lz_St w0 w' g gm A c b_ at_ plain x48 (out ++ [(2 * ((n : Int) - 3) + 1)] ++ wire_vb 9 ((at_ : Int) - q - 1)) L) ∧ (b 22 = true → b 21 = true) ∧ (b 23 = true → ∀ j, j < 23 → b j = true) ∧ (b 0 = true → x28 = .pointer (some ⟨g, 0, none⟩)) ∧ (b 1 = true → x29 = .pointer (some ⟨g, 0, none⟩)) ∧ (b 2 = true → x30 = .pointer (some ⟨g, 0, none⟩)) ∧ (b 3 = true → x31 = .pointer (some ⟨g, 3, none⟩)) ∧ (b 4 = true → x32 = vo) ∧ (b 5 = true → x33 = .int .i64 (n : Int)) ∧ (b 6 = true → x34 = .int .i64 ((n : Int) - 3)) ∧ (b 7 = true → x35 = .int .i64 (2 * ((n : Int) - 3))) ∧ (b 8 = true → x36 = .int .i64 (2 * ((n : Int) - 3) + 1)) ∧ (b 9 = true → x37 = .int .u8 (2 * ((n : Int) - 3) + 1)) ∧ (b 12 = true → x40 = .pointer (some ⟨g, 0, none⟩)) ∧ (b 13 = true → x41 = .pointer (some ⟨g, 0, none⟩)) ∧ (b 14 = true → x42 = .pointer (some ⟨g, 1, none⟩)) ∧ (b 15 = true → x43 = .int .i64 (at_ : Int)) ∧ (b 16 = true → x44 = .int .i64 (q : Int)) ∧ (b 17 = true → x45 = .int .i64 ((at_ : Int) - q)) ∧ (b 18 = true → x46 = .int .i64 ((at_ : Int) - q - 1)) ∧ (b 19 = true → x47 = .int .u64 ((at_ : Int) - q - 1)) ∧ (b 21 = true → x49 = .pointer (some ⟨g, 0, none⟩)) ∧ (b 22 = true → x50 = .pointer (some ⟨g, 3, none⟩))) (by kernel_rfl) (by kernel_rfl) ?start ⟨?op0, ?op1, ?op2, ?op3, ?op4, ?op5, ?op6, ?op7, ?op8, ?op9, ?op10, ?op11, ?op12, ?op13, ?op14, ?op15, ?op16, ?op17, ?op18, ?op19, ?op20, ?op21, ?op22, ?op23, trivial⟩ ?done
        case start => exact ⟨_, _, _, _, _, _, _, _, _, _, _, _, _, _, _, _, _, _, _, _, _, _, _, by simp only [Act.put, List.setIfInBounds_toArray, List.set_cons_zero, List.set_cons_succ]; rfl, fun _ => KeepBut.of_below (below_drew1 (Below.refl _ _)) _ _, below_drew1 HS.out.hb, fun _ => Kd.R_drew HS.out.out, fun h => absurd h (by decide), fun h => absurd h (by decide), fun h => absurd h (by decide), fun h => absurd h (by decide), fun h => absurd h (by decide), fun h => absurd h (by decide), fun h => absurd h (by decide), fun h => absurd h (by decide), fun h => absurd h (by decide), fun h => absurd h (by decide), fun h => absurd h (by decide), fun h => absurd h (by decide), fun h => absurd h (by decide), fun h => absurd h (by decide), fun h => absurd h (by decide), fun h => absurd h (by decide), fun h => absurd h (by decide), fun h => absurd h (by decide), fun h => absurd h (by decide), fun h => absurd h (by decide), fun h => absurd h (by decide), fun h => absurd h (by decide), fun h => absurd h (by decide), fun h => absurd h (by decide), fun h => absurd h (by decide), fun h => absurd h (by decide), fun h => absurd h (by decide)⟩
        case op0 =>
          rintro bb _ w' ⟨x28, x29, x30, x31, x32, x33, x34, x35, x36, x37, x38, x39, x40, x41, x42, x43, x44, x45, x46, x47, x48, x49, x50, rfl, KB, HB, R0, R1, R2, S1, Q20, F, Q22, Q23, p28, p29, p30, p31, p32, p33, p34, p35, p36, p37, p40, p41, p42, p43, p44, p45, p46, p47, p49, p50⟩ hb hd K hK
          simp only [Act.put, List.setIfInBounds_toArray, List.set_cons_zero, List.set_cons_succ]
          rw [if_pos (by rfl)]
          have h23 : bb 23 = false := by cases h : bb 23 with | false => rfl | true => exact absurd (Q23 h 0 (by decide)) (by rw [hb]; decide)
          go_simp
          exact hK _ _ ⟨.pointer (some ⟨g, 0, none⟩), x29, x30, x31, x32, x33, x34, x35, x36, x37, x38, x39, x40, x41, x42, x43, x44, x45, x46, x47, x48, x49, x50, by simp only [Act.put, List.setIfInBounds_toArray, List.set_cons_zero, List.set_cons_succ], fun _ => KB h23, HB, fun h => R0 (by simpa [upb] using h), fun h h2 => R1 (by simpa [upb] using h) (by simpa [upb] using h2), fun h h2 => R2 (by simpa [upb] using h) (by simpa [upb] using h2), fun h h2 => S1 (by simpa [upb] using h) (by simpa [upb] using h2), fun h => lz_upb (Q20 (by simpa [upb] using h)), fun h => absurd h (by simp [upb, h23]), fun h => lz_upb (Q22 (by simpa [upb] using h)), fun h => absurd h (by simp [upb, h23]), fun _ => rfl, fun h => p29 (by simpa [upb] using h), fun h => p30 (by simpa [upb] using h), fun h => p31 (by simpa [upb] using h), fun h => p32 (by simpa [upb] using h), fun h => p33 (by simpa [upb] using h), fun h => p34 (by simpa [upb] using h), fun h => p35 (by simpa [upb] using h), fun h => p36 (by simpa [upb] using h), fun h => p37 (by simpa [upb] using h), fun h => p40 (by simpa [upb] using h), fun h => p41 (by simpa [upb] using h), fun h => p42 (by simpa [upb] using h), fun h => p43 (by simpa [upb] using h), fun h => p44 (by simpa [upb] using h), fun h => p45 (by simpa [upb] using h), fun h => p46 (by simpa [upb] using h), fun h => p47 (by simpa [upb] using h), fun h => p49 (by simpa [upb] using h), fun h => p50 (by simpa [upb] using h)⟩
        case op1 =>
          rintro bb _ w' ⟨x28, x29, x30, x31, x32, x33, x34, x35, x36, x37, x38, x39, x40, x41, x42, x43, x44, x45, x46, x47, x48, x49, x50, rfl, KB, HB, R0, R1, R2, S1, Q20, F, Q22, Q23, p28, p29, p30, p31, p32, p33, p34, p35, p36, p37, p40, p41, p42, p43, p44, p45, p46, p47, p49, p50⟩ hb hd K hK
          simp only [Act.put, List.setIfInBounds_toArray, List.set_cons_zero, List.set_cons_succ]
          rw [if_pos (by rfl)]
          have h23 : bb 23 = false := by cases h : bb 23 with | false => rfl | true => exact absurd (Q23 h 1 (by decide)) (by rw [hb]; decide)
          go_simp
          exact hK _ _ ⟨x28, .pointer (some ⟨g, 0, none⟩), x30, x31, x32, x33, x34, x35, x36, x37, x38, x39, x40, x41, x42, x43, x44, x45, x46, x47, x48, x49, x50, by simp only [Act.put, List.setIfInBounds_toArray, List.set_cons_zero, List.set_cons_succ], fun _ => KB h23, HB, fun h => R0 (by simpa [upb] using h), fun h h2 => R1 (by simpa [upb] using h) (by simpa [upb] using h2), fun h h2 => R2 (by simpa [upb] using h) (by simpa [upb] using h2), fun h h2 => S1 (by simpa [upb] using h) (by simpa [upb] using h2), fun h => lz_upb (Q20 (by simpa [upb] using h)), fun h => absurd h (by simp [upb, h23]), fun h => lz_upb (Q22 (by simpa [upb] using h)), fun h => absurd h (by simp [upb, h23]), fun h => p28 (by simpa [upb] using h), fun _ => rfl, fun h => p30 (by simpa [upb] using h), fun h => p31 (by simpa [upb] using h), fun h => p32 (by simpa [upb] using h), fun h => p33 (by simpa [upb] using h), fun h => p34 (by simpa [upb] using h), fun h => p35 (by simpa [upb] using h), fun h => p36 (by simpa [upb] using h), fun h => p37 (by simpa [upb] using h), fun h => p40 (by simpa [upb] using h), fun h => p41 (by simpa [upb] using h), fun h => p42 (by simpa [upb] using h), fun h => p43 (by simpa [upb] using h), fun h => p44 (by simpa [upb] using h), fun h => p45 (by simpa [upb] using h), fun h => p46 (by simpa [upb] using h), fun h => p47 (by simpa [upb] using h), fun h => p49 (by simpa [upb] using h), fun h => p50 (by simpa [upb] using h)⟩
        case op2 =>
          rintro bb _ w' ⟨x28, x29, x30, x31, x32, x33, x34, x35, x36, x37, x38, x39, x40, x41, x42, x43, x44, x45, x46, x47, x48, x49, x50, rfl, KB, HB, R0, R1, R2, S1, Q20, F, Q22, Q23, p28, p29, p30, p31, p32, p33, p34, p35, p36, p37, p40, p41, p42, p43, p44, p45, p46, p47, p49, p50⟩ hb hd K hK
          simp only [Act.put, List.setIfInBounds_toArray, List.set_cons_zero, List.set_cons_succ]
          obtain rfl := (p29 (hd 1 (by decide))).symm
          rw [if_pos (by rfl)]
          have h23 : bb 23 = false := by cases h : bb 23 with | false => rfl | true => exact absurd (Q23 h 2 (by decide)) (by rw [hb]; decide)
          have hG : lz_Blk w' g A b_.length c at_ gm vo plain := (KB h23).blk HS.out.blk (by have := blk_lt HS.out.blk; omega) hgrow
          have hc : w'.cell? ⟨g, 0, none⟩ = _ := blk_cell hG 0
          go_simp
          exact hK _ _ ⟨x28, .pointer (some ⟨g, 0, none⟩), .pointer (some ⟨g, 0, none⟩), x31, x32, x33, x34, x35, x36, x37, x38, x39, x40, x41, x42, x43, x44, x45, x46, x47, x48, x49, x50, by simp only [Act.put, List.setIfInBounds_toArray, List.set_cons_zero, List.set_cons_succ], fun _ => KB h23, HB, fun h => R0 (by simpa [upb] using h), fun h h2 => R1 (by simpa [upb] using h) (by simpa [upb] using h2), fun h h2 => R2 (by simpa [upb] using h) (by simpa [upb] using h2), fun h h2 => S1 (by simpa [upb] using h) (by simpa [upb] using h2), fun h => lz_upb (Q20 (by simpa [upb] using h)), fun h => absurd h (by simp [upb, h23]), fun h => lz_upb (Q22 (by simpa [upb] using h)), fun h => absurd h (by simp [upb, h23]), fun h => p28 (by simpa [upb] using h), fun _ => rfl, fun _ => rfl, fun h => p31 (by simpa [upb] using h), fun h => p32 (by simpa [upb] using h), fun h => p33 (by simpa [upb] using h), fun h => p34 (by simpa [upb] using h), fun h => p35 (by simpa [upb] using h), fun h => p36 (by simpa [upb] using h), fun h => p37 (by simpa [upb] using h), fun h => p40 (by simpa [upb] using h), fun h => p41 (by simpa [upb] using h), fun h => p42 (by simpa [upb] using h), fun h => p43 (by simpa [upb] using h), fun h => p44 (by simpa [upb] using h), fun h => p45 (by simpa [upb] using h), fun h => p46 (by simpa [upb] using h), fun h => p47 (by simpa [upb] using h), fun h => p49 (by simpa [upb] using h), fun h => p50 (by simpa [upb] using h)⟩
        case op3 =>
          rintro bb _ w' ⟨x28, x29, x30, x31, x32, x33, x34, x35, x36, x37, x38, x39, x40, x41, x42, x43, x44, x45, x46, x47, x48, x49, x50, rfl, KB, HB, R0, R1, R2, S1, Q20, F, Q22, Q23, p28, p29, p30, p31, p32, p33, p34, p35, p36, p37, p40, p41, p42, p43, p44, p45, p46, p47, p49, p50⟩ hb hd K hK
          simp only [Act.put, List.setIfInBounds_toArray, List.set_cons_zero, List.set_cons_succ]
          obtain rfl := (p30 (hd 2 (by decide))).symm
          rw [if_pos (by rfl)]
          have h23 : bb 23 = false := by cases h : bb 23 with | false => rfl | true => exact absurd (Q23 h 3 (by decide)) (by rw [hb]; decide)
          go_simp
          exact hK _ _ ⟨x28, x29, .pointer (some ⟨g, 0, none⟩), .pointer (some ⟨g, 3, none⟩), x32, x33, x34, x35, x36, x37, x38, x39, x40, x41, x42, x43, x44, x45, x46, x47, x48, x49, x50, by simp only [Act.put, List.setIfInBounds_toArray, List.set_cons_zero, List.set_cons_succ], fun _ => KB h23, HB, fun h => R0 (by simpa [upb] using h), fun h h2 => R1 (by simpa [upb] using h) (by simpa [upb] using h2), fun h h2 => R2 (by simpa [upb] using h) (by simpa [upb] using h2), fun h h2 => S1 (by simpa [upb] using h) (by simpa [upb] using h2), fun h => lz_upb (Q20 (by simpa [upb] using h)), fun h => absurd h (by simp [upb, h23]), fun h => lz_upb (Q22 (by simpa [upb] using h)), fun h => absurd h (by simp [upb, h23]), fun h => p28 (by simpa [upb] using h), fun h => p29 (by simpa [upb] using h), fun _ => rfl, fun _ => rfl, fun h => p32 (by simpa [upb] using h), fun h => p33 (by simpa [upb] using h), fun h => p34 (by simpa [upb] using h), fun h => p35 (by simpa [upb] using h), fun h => p36 (by simpa [upb] using h), fun h => p37 (by simpa [upb] using h), fun h => p40 (by simpa [upb] using h), fun h => p41 (by simpa [upb] using h), fun h => p42 (by simpa [upb] using h), fun h => p43 (by simpa [upb] using h), fun h => p44 (by simpa [upb] using h), fun h => p45 (by simpa [upb] using h), fun h => p46 (by simpa [upb] using h), fun h => p47 (by simpa [upb] using h), fun h => p49 (by simpa [upb] using h), fun h => p50 (by simpa [upb] using h)⟩
        case op4 =>
          rintro bb _ w' ⟨x28, x29, x30, x31, x32, x33, x34, x35, x36, x37, x38, x39, x40, x41, x42, x43, x44, x45, x46, x47, x48, x49, x50, rfl, KB, HB, R0, R1, R2, S1, Q20, F, Q22, Q23, p28, p29, p30, p31, p32, p33, p34, p35, p36, p37, p40, p41, p42, p43, p44, p45, p46, p47, p49, p50⟩ hb hd K hK
          simp only [Act.put, List.setIfInBounds_toArray, List.set_cons_zero, List.set_cons_succ]
          obtain rfl := (p31 (hd 3 (by decide))).symm
          rw [if_pos (by rfl)]
          have h23 : bb 23 = false := by cases h : bb 23 with | false => rfl | true => exact absurd (Q23 h 4 (by decide)) (by rw [hb]; decide)
          have hG : lz_Blk w' g A b_.length c at_ gm vo plain := (KB h23).blk HS.out.blk (by have := blk_lt HS.out.blk; omega) hgrow
          have hc : w'.cell? ⟨g, 3, none⟩ = some vo := blk_cell hG 3
          go_simp
          exact hK _ _ ⟨x28, x29, x30, .pointer (some ⟨g, 3, none⟩), vo, x33, x34, x35, x36, x37, x38, x39, x40, x41, x42, x43, x44, x45, x46, x47, x48, x49, x50, by simp only [Act.put, List.setIfInBounds_toArray, List.set_cons_zero, List.set_cons_succ], fun _ => KB h23, HB, fun h => R0 (by simpa [upb] using h), fun h h2 => R1 (by simpa [upb] using h) (by simpa [upb] using h2), fun h h2 => R2 (by simpa [upb] using h) (by simpa [upb] using h2), fun h h2 => S1 (by simpa [upb] using h) (by simpa [upb] using h2), fun h => lz_upb (Q20 (by simpa [upb] using h)), fun h => absurd h (by simp [upb, h23]), fun h => lz_upb (Q22 (by simpa [upb] using h)), fun h => absurd h (by simp [upb, h23]), fun h => p28 (by simpa [upb] using h), fun h => p29 (by simpa [upb] using h), fun h => p30 (by simpa [upb] using h), fun _ => rfl, fun _ => rfl, fun h => p33 (by simpa [upb] using h), fun h => p34 (by simpa [upb] using h), fun h => p35 (by simpa [upb] using h), fun h => p36 (by simpa [upb] using h), fun h => p37 (by simpa [upb] using h), fun h => p40 (by simpa [upb] using h), fun h => p41 (by simpa [upb] using h), fun h => p42 (by simpa [upb] using h), fun h => p43 (by simpa [upb] using h), fun h => p44 (by simpa [upb] using h), fun h => p45 (by simpa [upb] using h), fun h => p46 (by simpa [upb] using h), fun h => p47 (by simpa [upb] using h), fun h => p49 (by simpa [upb] using h), fun h => p50 (by simpa [upb] using h)⟩
        case op5 =>
          rintro bb _ w' ⟨x28, x29, x30, x31, x32, x33, x34, x35, x36, x37, x38, x39, x40, x41, x42, x43, x44, x45, x46, x47, x48, x49, x50, rfl, KB, HB, R0, R1, R2, S1, Q20, F, Q22, Q23, p28, p29, p30, p31, p32, p33, p34, p35, p36, p37, p40, p41, p42, p43, p44, p45, p46, p47, p49, p50⟩ hb hd K hK
          simp only [Act.put, List.setIfInBounds_toArray, List.set_cons_zero, List.set_cons_succ]
          rw [if_pos (by rfl)]
          have h23 : bb 23 = false := by cases h : bb 23 with | false => rfl | true => exact absurd (Q23 h 5 (by decide)) (by rw [hb]; decide)
          go_simp
          exact hK _ _ ⟨x28, x29, x30, x31, x32, .int .i64 (n : Int), x34, x35, x36, x37, x38, x39, x40, x41, x42, x43, x44, x45, x46, x47, x48, x49, x50, by simp only [Act.put, List.setIfInBounds_toArray, List.set_cons_zero, List.set_cons_succ], fun _ => KB h23, HB, fun h => R0 (by simpa [upb] using h), fun h h2 => R1 (by simpa [upb] using h) (by simpa [upb] using h2), fun h h2 => R2 (by simpa [upb] using h) (by simpa [upb] using h2), fun h h2 => S1 (by simpa [upb] using h) (by simpa [upb] using h2), fun h => lz_upb (Q20 (by simpa [upb] using h)), fun h => absurd h (by simp [upb, h23]), fun h => lz_upb (Q22 (by simpa [upb] using h)), fun h => absurd h (by simp [upb, h23]), fun h => p28 (by simpa [upb] using h), fun h => p29 (by simpa [upb] using h), fun h => p30 (by simpa [upb] using h), fun h => p31 (by simpa [upb] using h), fun h => p32 (by simpa [upb] using h), fun _ => rfl, fun h => p34 (by simpa [upb] using h), fun h => p35 (by simpa [upb] using h), fun h => p36 (by simpa [upb] using h), fun h => p37 (by simpa [upb] using h), fun h => p40 (by simpa [upb] using h), fun h => p41 (by simpa [upb] using h), fun h => p42 (by simpa [upb] using h), fun h => p43 (by simpa [upb] using h), fun h => p44 (by simpa [upb] using h), fun h => p45 (by simpa [upb] using h), fun h => p46 (by simpa [upb] using h), fun h => p47 (by simpa [upb] using h), fun h => p49 (by simpa [upb] using h), fun h => p50 (by simpa [upb] using h)⟩
        case op6 =>
          rintro bb _ w' ⟨x28, x29, x30, x31, x32, x33, x34, x35, x36, x37, x38, x39, x40, x41, x42, x43, x44, x45, x46, x47, x48, x49, x50, rfl, KB, HB, R0, R1, R2, S1, Q20, F, Q22, Q23, p28, p29, p30, p31, p32, p33, p34, p35, p36, p37, p40, p41, p42, p43, p44, p45, p46, p47, p49, p50⟩ hb hd K hK
          simp only [Act.put, List.setIfInBounds_toArray, List.set_cons_zero, List.set_cons_succ]
          obtain rfl := (p33 (hd 5 (by decide))).symm
          rw [if_pos (by rfl)]
          have h23 : bb 23 = false := by cases h : bb 23 with | false => rfl | true => exact absurd (Q23 h 6 (by decide)) (by rw [hb]; decide)
          have hw : IntKind.i64.wrap ((n : Int) - 3) = (n : Int) - 3 := IntWalk.i64_in _ (by omega)
          go_simp
          exact hK _ _ ⟨x28, x29, x30, x31, x32, .int .i64 (n : Int), .int .i64 ((n : Int) - 3), x35, x36, x37, x38, x39, x40, x41, x42, x43, x44, x45, x46, x47, x48, x49, x50, by simp only [Act.put, List.setIfInBounds_toArray, List.set_cons_zero, List.set_cons_succ], fun _ => KB h23, HB, fun h => R0 (by simpa [upb] using h), fun h h2 => R1 (by simpa [upb] using h) (by simpa [upb] using h2), fun h h2 => R2 (by simpa [upb] using h) (by simpa [upb] using h2), fun h h2 => S1 (by simpa [upb] using h) (by simpa [upb] using h2), fun h => lz_upb (Q20 (by simpa [upb] using h)), fun h => absurd h (by simp [upb, h23]), fun h => lz_upb (Q22 (by simpa [upb] using h)), fun h => absurd h (by simp [upb, h23]), fun h => p28 (by simpa [upb] using h), fun h => p29 (by simpa [upb] using h), fun h => p30 (by simpa [upb] using h), fun h => p31 (by simpa [upb] using h), fun h => p32 (by simpa [upb] using h), fun _ => rfl, fun _ => rfl, fun h => p35 (by simpa [upb] using h), fun h => p36 (by simpa [upb] using h), fun h => p37 (by simpa [upb] using h), fun h => p40 (by simpa [upb] using h), fun h => p41 (by simpa [upb] using h), fun h => p42 (by simpa [upb] using h), fun h => p43 (by simpa [upb] using h), fun h => p44 (by simpa [upb] using h), fun h => p45 (by simpa [upb] using h), fun h => p46 (by simpa [upb] using h), fun h => p47 (by simpa [upb] using h), fun h => p49 (by simpa [upb] using h), fun h => p50 (by simpa [upb] using h)⟩
        case op7 =>
          rintro bb _ w' ⟨x28, x29, x30, x31, x32, x33, x34, x35, x36, x37, x38, x39, x40, x41, x42, x43, x44, x45, x46, x47, x48, x49, x50, rfl, KB, HB, R0, R1, R2, S1, Q20, F, Q22, Q23, p28, p29, p30, p31, p32, p33, p34, p35, p36, p37, p40, p41, p42, p43, p44, p45, p46, p47, p49, p50⟩ hb hd K hK
          simp only [Act.put, List.setIfInBounds_toArray, List.set_cons_zero, List.set_cons_succ]
          obtain rfl := (p34 (hd 6 (by decide))).symm
          rw [if_pos (by rfl)]
          have h23 : bb 23 = false := by cases h : bb 23 with | false => rfl | true => exact absurd (Q23 h 7 (by decide)) (by rw [hb]; decide)
          have hw : IntKind.i64.wrap (2 * ((n : Int) - 3)) = 2 * ((n : Int) - 3) := IntWalk.i64_in _ (by omega)
          go_simp
          exact hK _ _ ⟨x28, x29, x30, x31, x32, x33, .int .i64 ((n : Int) - 3), .int .i64 (2 * ((n : Int) - 3)), x36, x37, x38, x39, x40, x41, x42, x43, x44, x45, x46, x47, x48, x49, x50, by simp only [Act.put, List.setIfInBounds_toArray, List.set_cons_zero, List.set_cons_succ], fun _ => KB h23, HB, fun h => R0 (by simpa [upb] using h), fun h h2 => R1 (by simpa [upb] using h) (by simpa [upb] using h2), fun h h2 => R2 (by simpa [upb] using h) (by simpa [upb] using h2), fun h h2 => S1 (by simpa [upb] using h) (by simpa [upb] using h2), fun h => lz_upb (Q20 (by simpa [upb] using h)), fun h => absurd h (by simp [upb, h23]), fun h => lz_upb (Q22 (by simpa [upb] using h)), fun h => absurd h (by simp [upb, h23]), fun h => p28 (by simpa [upb] using h), fun h => p29 (by simpa [upb] using h), fun h => p30 (by simpa [upb] using h), fun h => p31 (by simpa [upb] using h), fun h => p32 (by simpa [upb] using h), fun h => p33 (by simpa [upb] using h), fun _ => rfl, fun _ => rfl, fun h => p36 (by simpa [upb] using h), fun h => p37 (by simpa [upb] using h), fun h => p40 (by simpa [upb] using h), fun h => p41 (by simpa [upb] using h), fun h => p42 (by simpa [upb] using h), fun h => p43 (by simpa [upb] using h), fun h => p44 (by simpa [upb] using h), fun h => p45 (by simpa [upb] using h), fun h => p46 (by simpa [upb] using h), fun h => p47 (by simpa [upb] using h), fun h => p49 (by simpa [upb] using h), fun h => p50 (by simpa [upb] using h)⟩
        case op8 =>
          rintro bb _ w' ⟨x28, x29, x30, x31, x32, x33, x34, x35, x36, x37, x38, x39, x40, x41, x42, x43, x44, x45, x46, x47, x48, x49, x50, rfl, KB, HB, R0, R1, R2, S1, Q20, F, Q22, Q23, p28, p29, p30, p31, p32, p33, p34, p35, p36, p37, p40, p41, p42, p43, p44, p45, p46, p47, p49, p50⟩ hb hd K hK
          simp only [Act.put, List.setIfInBounds_toArray, List.set_cons_zero, List.set_cons_succ]
          obtain rfl := (p35 (hd 7 (by decide))).symm
          rw [if_pos (by rfl)]
          have h23 : bb 23 = false := by cases h : bb 23 with | false => rfl | true => exact absurd (Q23 h 8 (by decide)) (by rw [hb]; decide)
          have hw : IntKind.i64.wrap (2 * ((n : Int) - 3) + 1) = 2 * ((n : Int) - 3) + 1 := IntWalk.i64_in _ (by omega)
          go_simp
          exact hK _ _ ⟨x28, x29, x30, x31, x32, x33, x34, .int .i64 (2 * ((n : Int) - 3)), .int .i64 (2 * ((n : Int) - 3) + 1), x37, x38, x39, x40, x41, x42, x43, x44, x45, x46, x47, x48, x49, x50, by simp only [Act.put, List.setIfInBounds_toArray, List.set_cons_zero, List.set_cons_succ], fun _ => KB h23, HB, fun h => R0 (by simpa [upb] using h), fun h h2 => R1 (by simpa [upb] using h) (by simpa [upb] using h2), fun h h2 => R2 (by simpa [upb] using h) (by simpa [upb] using h2), fun h h2 => S1 (by simpa [upb] using h) (by simpa [upb] using h2), fun h => lz_upb (Q20 (by simpa [upb] using h)), fun h => absurd h (by simp [upb, h23]), fun h => lz_upb (Q22 (by simpa [upb] using h)), fun h => absurd h (by simp [upb, h23]), fun h => p28 (by simpa [upb] using h), fun h => p29 (by simpa [upb] using h), fun h => p30 (by simpa [upb] using h), fun h => p31 (by simpa [upb] using h), fun h => p32 (by simpa [upb] using h), fun h => p33 (by simpa [upb] using h), fun h => p34 (by simpa [upb] using h), fun _ => rfl, fun _ => rfl, fun h => p37 (by simpa [upb] using h), fun h => p40 (by simpa [upb] using h), fun h => p41 (by simpa [upb] using h), fun h => p42 (by simpa [upb] using h), fun h => p43 (by simpa [upb] using h), fun h => p44 (by simpa [upb] using h), fun h => p45 (by simpa [upb] using h), fun h => p46 (by simpa [upb] using h), fun h => p47 (by simpa [upb] using h), fun h => p49 (by simpa [upb] using h), fun h => p50 (by simpa [upb] using h)⟩
        case op9 =>
          rintro bb _ w' ⟨x28, x29, x30, x31, x32, x33, x34, x35, x36, x37, x38, x39, x40, x41, x42, x43, x44, x45, x46, x47, x48, x49, x50, rfl, KB, HB, R0, R1, R2, S1, Q20, F, Q22, Q23, p28, p29, p30, p31, p32, p33, p34, p35, p36, p37, p40, p41, p42, p43, p44, p45, p46, p47, p49, p50⟩ hb hd K hK
          simp only [Act.put, List.setIfInBounds_toArray, List.set_cons_zero, List.set_cons_succ]
          obtain rfl := (p36 (hd 8 (by decide))).symm
          rw [if_pos (by rfl)]
          have h23 : bb 23 = false := by cases h : bb 23 with | false => rfl | true => exact absurd (Q23 h 9 (by decide)) (by rw [hb]; decide)
          have hw : IntKind.u8.wrap (2 * ((n : Int) - 3) + 1) = 2 * ((n : Int) - 3) + 1 := lz_u8 _ (by omega)
          go_simp
          exact hK _ _ ⟨x28, x29, x30, x31, x32, x33, x34, x35, .int .i64 (2 * ((n : Int) - 3) + 1), .int .u8 (2 * ((n : Int) - 3) + 1), x38, x39, x40, x41, x42, x43, x44, x45, x46, x47, x48, x49, x50, by simp only [Act.put, List.setIfInBounds_toArray, List.set_cons_zero, List.set_cons_succ], fun _ => KB h23, HB, fun h => R0 (by simpa [upb] using h), fun h h2 => R1 (by simpa [upb] using h) (by simpa [upb] using h2), fun h h2 => R2 (by simpa [upb] using h) (by simpa [upb] using h2), fun h h2 => S1 (by simpa [upb] using h) (by simpa [upb] using h2), fun h => lz_upb (Q20 (by simpa [upb] using h)), fun h => absurd h (by simp [upb, h23]), fun h => lz_upb (Q22 (by simpa [upb] using h)), fun h => absurd h (by simp [upb, h23]), fun h => p28 (by simpa [upb] using h), fun h => p29 (by simpa [upb] using h), fun h => p30 (by simpa [upb] using h), fun h => p31 (by simpa [upb] using h), fun h => p32 (by simpa [upb] using h), fun h => p33 (by simpa [upb] using h), fun h => p34 (by simpa [upb] using h), fun h => p35 (by simpa [upb] using h), fun _ => rfl, fun _ => rfl, fun h => p40 (by simpa [upb] using h), fun h => p41 (by simpa [upb] using h), fun h => p42 (by simpa [upb] using h), fun h => p43 (by simpa [upb] using h), fun h => p44 (by simpa [upb] using h), fun h => p45 (by simpa [upb] using h), fun h => p46 (by simpa [upb] using h), fun h => p47 (by simpa [upb] using h), fun h => p49 (by simpa [upb] using h), fun h => p50 (by simpa [upb] using h)⟩
        case op10 =>
          rintro bb _ w' ⟨x28, x29, x30, x31, x32, x33, x34, x35, x36, x37, x38, x39, x40, x41, x42, x43, x44, x45, x46, x47, x48, x49, x50, rfl, KB, HB, R0, R1, R2, S1, Q20, F, Q22, Q23, p28, p29, p30, p31, p32, p33, p34, p35, p36, p37, p40, p41, p42, p43, p44, p45, p46, p47, p49, p50⟩ hb hd K hK
          simp only [Act.put, List.setIfInBounds_toArray, List.set_cons_zero, List.set_cons_succ]
          obtain rfl := (p37 (hd 9 (by decide))).symm
          rw [if_pos (by rfl)]
          have h23 : bb 23 = false := by cases h : bb 23 with | false => rfl | true => exact absurd (Q23 h 10 (by decide)) (by rw [hb]; decide)
          go_simp
          exact hK _ _ ⟨x28, x29, x30, x31, x32, x33, x34, x35, x36, .int .u8 (2 * ((n : Int) - 3) + 1), .slice (some ⟨w'.heap.size, 0, none⟩) 1 1, x39, x40, x41, x42, x43, x44, x45, x46, x47, x48, x49, x50, by simp only [Act.put, List.setIfInBounds_toArray, List.set_cons_zero, List.set_cons_succ], fun _ => (KB h23).trans (KeepBut.of_below (below_alloc (Below.refl _ _) _) _ _) (.inl rfl), below_alloc HB _, fun h => Kd.R_alloc (R0 (by simpa [upb] using h)) _, fun h h2 => Kd.R_alloc (R1 (by simpa [upb] using h) (by simpa [upb] using h2)) _, fun h h2 => Kd.R_alloc (R2 (by simpa [upb] using h) (by simpa [upb] using h2)) _, fun _ _ => ⟨_, rfl, (KB h23).1, heap_alloc_new _ _⟩, fun h => lz_upb (Q20 (by simpa [upb] using h)), fun h => absurd h (by simp [upb, h23]), fun h => lz_upb (Q22 (by simpa [upb] using h)), fun h => absurd h (by simp [upb, h23]), fun h => p28 (by simpa [upb] using h), fun h => p29 (by simpa [upb] using h), fun h => p30 (by simpa [upb] using h), fun h => p31 (by simpa [upb] using h), fun h => p32 (by simpa [upb] using h), fun h => p33 (by simpa [upb] using h), fun h => p34 (by simpa [upb] using h), fun h => p35 (by simpa [upb] using h), fun h => p36 (by simpa [upb] using h), fun _ => rfl, fun h => p40 (by simpa [upb] using h), fun h => p41 (by simpa [upb] using h), fun h => p42 (by simpa [upb] using h), fun h => p43 (by simpa [upb] using h), fun h => p44 (by simpa [upb] using h), fun h => p45 (by simpa [upb] using h), fun h => p46 (by simpa [upb] using h), fun h => p47 (by simpa [upb] using h), fun h => p49 (by simpa [upb] using h), fun h => p50 (by simpa [upb] using h)⟩
        case op11 =>
          rintro bb _ w' ⟨x28, x29, x30, x31, x32, x33, x34, x35, x36, x37, x38, x39, x40, x41, x42, x43, x44, x45, x46, x47, x48, x49, x50, rfl, KB, HB, R0, R1, R2, S1, Q20, F, Q22, Q23, p28, p29, p30, p31, p32, p33, p34, p35, p36, p37, p40, p41, p42, p43, p44, p45, p46, p47, p49, p50⟩ hb hd K hK
          simp only [Act.put, List.setIfInBounds_toArray, List.set_cons_zero, List.set_cons_succ]
          obtain rfl := (p32 (hd 4 (by decide))).symm
          rw [if_pos (by rfl)]
          have h23 : bb 23 = false := by cases h : bb 23 with | false => rfl | true => exact absurd (Q23 h 11 (by decide)) (by rw [hb]; decide)
          obtain ⟨gN, e13, hgN, hNN⟩ := S1 (hd 10 (by decide)) hb
          subst e13
          obtain ⟨i0, hi, hz0, hz1, hz2⟩ := info_parts info5
          have hown := Kd.own_of_R (R0 hb)
          refine wp_append_lies _ (.tmp 32) (.tmp 38) 22 rfl w0.heap.size 5 i0 (.int .u8 0) 1 1 Tryd.underlying22 hi hz0 hz1 hz2 rfl (by decide) vo out.length _ (by rfl) hown ⟨gN, 0, none⟩ 1 1 [.int .u8 (2 * ((n : Int) - 3) + 1)] (by rfl) rfl (fun j u hj => by rw [add_plain]; exact lz_one_cell hNN hj) (by simp [Value.oneCell']) (by decide) (by unfold maxLen; omega) (by omega) HB.size w'.heap.size rfl ?_
          intro g1 cap w2 hown2 hgr hat hlt2
          have hR2 : Kd.R (Kd.int .u8) 5 w2 w0.heap.size (fun _ => True) (.slice (some ⟨g1, 0, none⟩) (out.length + 1) cap) (out ++ [(2 * ((n : Int) - 3) + 1)]) := wire_R_of_own (by simp [encs]) hown2
          exact hK _ _ ⟨x28, x29, x30, x31, vo, x33, x34, x35, x36, x37, .slice (some ⟨gN, 0, none⟩) 1 1, .slice (some ⟨g1, 0, none⟩) (out.length + 1) cap, x40, x41, x42, x43, x44, x45, x46, x47, x48, x49, x50, by simp only [Act.put, List.setIfInBounds_toArray, List.set_cons_zero, List.set_cons_succ], fun _ => (KB h23).trans (KeepBut.of_grown hgr _) (.inl rfl), pw_below_grown HB _ HB.size hgr (Kd.R_base HS.out.out), fun h => absurd h (by simp [upb]), fun _ _ => hR2, fun h => absurd (Q20 (by simpa [upb] using h)) (by rw [hb]; decide), fun _ h => absurd h (by simp [upb]), fun _ => by simp [upb], fun h => absurd h (by simp [upb, h23]), fun h => lz_upb (Q22 (by simpa [upb] using h)), fun h => absurd h (by simp [upb, h23]), fun h => p28 (by simpa [upb] using h), fun h => p29 (by simpa [upb] using h), fun h => p30 (by simpa [upb] using h), fun h => p31 (by simpa [upb] using h), fun _ => rfl, fun h => p33 (by simpa [upb] using h), fun h => p34 (by simpa [upb] using h), fun h => p35 (by simpa [upb] using h), fun h => p36 (by simpa [upb] using h), fun h => p37 (by simpa [upb] using h), fun h => p40 (by simpa [upb] using h), fun h => p41 (by simpa [upb] using h), fun h => p42 (by simpa [upb] using h), fun h => p43 (by simpa [upb] using h), fun h => p44 (by simpa [upb] using h), fun h => p45 (by simpa [upb] using h), fun h => p46 (by simpa [upb] using h), fun h => p47 (by simpa [upb] using h), fun h => p49 (by simpa [upb] using h), fun h => p50 (by simpa [upb] using h)⟩
        case op12 =>
          rintro bb _ w' ⟨x28, x29, x30, x31, x32, x33, x34, x35, x36, x37, x38, x39, x40, x41, x42, x43, x44, x45, x46, x47, x48, x49, x50, rfl, KB, HB, R0, R1, R2, S1, Q20, F, Q22, Q23, p28, p29, p30, p31, p32, p33, p34, p35, p36, p37, p40, p41, p42, p43, p44, p45, p46, p47, p49, p50⟩ hb hd K hK
          simp only [Act.put, List.setIfInBounds_toArray, List.set_cons_zero, List.set_cons_succ]
          rw [if_pos (by rfl)]
          have h23 : bb 23 = false := by cases h : bb 23 with | false => rfl | true => exact absurd (Q23 h 12 (by decide)) (by rw [hb]; decide)
          go_simp
          exact hK _ _ ⟨x28, x29, x30, x31, x32, x33, x34, x35, x36, x37, x38, x39, .pointer (some ⟨g, 0, none⟩), x41, x42, x43, x44, x45, x46, x47, x48, x49, x50, by simp only [Act.put, List.setIfInBounds_toArray, List.set_cons_zero, List.set_cons_succ], fun _ => KB h23, HB, fun h => R0 (by simpa [upb] using h), fun h h2 => R1 (by simpa [upb] using h) (by simpa [upb] using h2), fun h h2 => R2 (by simpa [upb] using h) (by simpa [upb] using h2), fun h h2 => S1 (by simpa [upb] using h) (by simpa [upb] using h2), fun h => lz_upb (Q20 (by simpa [upb] using h)), fun h => absurd h (by simp [upb, h23]), fun h => lz_upb (Q22 (by simpa [upb] using h)), fun h => absurd h (by simp [upb, h23]), fun h => p28 (by simpa [upb] using h), fun h => p29 (by simpa [upb] using h), fun h => p30 (by simpa [upb] using h), fun h => p31 (by simpa [upb] using h), fun h => p32 (by simpa [upb] using h), fun h => p33 (by simpa [upb] using h), fun h => p34 (by simpa [upb] using h), fun h => p35 (by simpa [upb] using h), fun h => p36 (by simpa [upb] using h), fun h => p37 (by simpa [upb] using h), fun _ => rfl, fun h => p41 (by simpa [upb] using h), fun h => p42 (by simpa [upb] using h), fun h => p43 (by simpa [upb] using h), fun h => p44 (by simpa [upb] using h), fun h => p45 (by simpa [upb] using h), fun h => p46 (by simpa [upb] using h), fun h => p47 (by simpa [upb] using h), fun h => p49 (by simpa [upb] using h), fun h => p50 (by simpa [upb] using h)⟩
        case op13 =>
          rintro bb _ w' ⟨x28, x29, x30, x31, x32, x33, x34, x35, x36, x37, x38, x39, x40, x41, x42, x43, x44, x45, x46, x47, x48, x49, x50, rfl, KB, HB, R0, R1, R2, S1, Q20, F, Q22, Q23, p28, p29, p30, p31, p32, p33, p34, p35, p36, p37, p40, p41, p42, p43, p44, p45, p46, p47, p49, p50⟩ hb hd K hK
          simp only [Act.put, List.setIfInBounds_toArray, List.set_cons_zero, List.set_cons_succ]
          obtain rfl := (p40 (hd 12 (by decide))).symm
          rw [if_pos (by rfl)]
          have h23 : bb 23 = false := by cases h : bb 23 with | false => rfl | true => exact absurd (Q23 h 13 (by decide)) (by rw [hb]; decide)
          have hG : lz_Blk w' g A b_.length c at_ gm vo plain := (KB h23).blk HS.out.blk (by have := blk_lt HS.out.blk; omega) hgrow
          have hc : w'.cell? ⟨g, 0, none⟩ = _ := blk_cell hG 0
          go_simp
          exact hK _ _ ⟨x28, x29, x30, x31, x32, x33, x34, x35, x36, x37, x38, x39, .pointer (some ⟨g, 0, none⟩), .pointer (some ⟨g, 0, none⟩), x42, x43, x44, x45, x46, x47, x48, x49, x50, by simp only [Act.put, List.setIfInBounds_toArray, List.set_cons_zero, List.set_cons_succ], fun _ => KB h23, HB, fun h => R0 (by simpa [upb] using h), fun h h2 => R1 (by simpa [upb] using h) (by simpa [upb] using h2), fun h h2 => R2 (by simpa [upb] using h) (by simpa [upb] using h2), fun h h2 => S1 (by simpa [upb] using h) (by simpa [upb] using h2), fun h => lz_upb (Q20 (by simpa [upb] using h)), fun h => absurd h (by simp [upb, h23]), fun h => lz_upb (Q22 (by simpa [upb] using h)), fun h => absurd h (by simp [upb, h23]), fun h => p28 (by simpa [upb] using h), fun h => p29 (by simpa [upb] using h), fun h => p30 (by simpa [upb] using h), fun h => p31 (by simpa [upb] using h), fun h => p32 (by simpa [upb] using h), fun h => p33 (by simpa [upb] using h), fun h => p34 (by simpa [upb] using h), fun h => p35 (by simpa [upb] using h), fun h => p36 (by simpa [upb] using h), fun h => p37 (by simpa [upb] using h), fun _ => rfl, fun _ => rfl, fun h => p42 (by simpa [upb] using h), fun h => p43 (by simpa [upb] using h), fun h => p44 (by simpa [upb] using h), fun h => p45 (by simpa [upb] using h), fun h => p46 (by simpa [upb] using h), fun h => p47 (by simpa [upb] using h), fun h => p49 (by simpa [upb] using h), fun h => p50 (by simpa [upb] using h)⟩
        case op14 =>
          rintro bb _ w' ⟨x28, x29, x30, x31, x32, x33, x34, x35, x36, x37, x38, x39, x40, x41, x42, x43, x44, x45, x46, x47, x48, x49, x50, rfl, KB, HB, R0, R1, R2, S1, Q20, F, Q22, Q23, p28, p29, p30, p31, p32, p33, p34, p35, p36, p37, p40, p41, p42, p43, p44, p45, p46, p47, p49, p50⟩ hb hd K hK
          simp only [Act.put, List.setIfInBounds_toArray, List.set_cons_zero, List.set_cons_succ]
          obtain rfl := (p41 (hd 13 (by decide))).symm
          rw [if_pos (by rfl)]
          have h23 : bb 23 = false := by cases h : bb 23 with | false => rfl | true => exact absurd (Q23 h 14 (by decide)) (by rw [hb]; decide)
          go_simp
          exact hK _ _ ⟨x28, x29, x30, x31, x32, x33, x34, x35, x36, x37, x38, x39, x40, .pointer (some ⟨g, 0, none⟩), .pointer (some ⟨g, 1, none⟩), x43, x44, x45, x46, x47, x48, x49, x50, by simp only [Act.put, List.setIfInBounds_toArray, List.set_cons_zero, List.set_cons_succ], fun _ => KB h23, HB, fun h => R0 (by simpa [upb] using h), fun h h2 => R1 (by simpa [upb] using h) (by simpa [upb] using h2), fun h h2 => R2 (by simpa [upb] using h) (by simpa [upb] using h2), fun h h2 => S1 (by simpa [upb] using h) (by simpa [upb] using h2), fun h => lz_upb (Q20 (by simpa [upb] using h)), fun h => absurd h (by simp [upb, h23]), fun h => lz_upb (Q22 (by simpa [upb] using h)), fun h => absurd h (by simp [upb, h23]), fun h => p28 (by simpa [upb] using h), fun h => p29 (by simpa [upb] using h), fun h => p30 (by simpa [upb] using h), fun h => p31 (by simpa [upb] using h), fun h => p32 (by simpa [upb] using h), fun h => p33 (by simpa [upb] using h), fun h => p34 (by simpa [upb] using h), fun h => p35 (by simpa [upb] using h), fun h => p36 (by simpa [upb] using h), fun h => p37 (by simpa [upb] using h), fun h => p40 (by simpa [upb] using h), fun _ => rfl, fun _ => rfl, fun h => p43 (by simpa [upb] using h), fun h => p44 (by simpa [upb] using h), fun h => p45 (by simpa [upb] using h), fun h => p46 (by simpa [upb] using h), fun h => p47 (by simpa [upb] using h), fun h => p49 (by simpa [upb] using h), fun h => p50 (by simpa [upb] using h)⟩
        case op15 =>
          rintro bb _ w' ⟨x28, x29, x30, x31, x32, x33, x34, x35, x36, x37, x38, x39, x40, x41, x42, x43, x44, x45, x46, x47, x48, x49, x50, rfl, KB, HB, R0, R1, R2, S1, Q20, F, Q22, Q23, p28, p29, p30, p31, p32, p33, p34, p35, p36, p37, p40, p41, p42, p43, p44, p45, p46, p47, p49, p50⟩ hb hd K hK
          simp only [Act.put, List.setIfInBounds_toArray, List.set_cons_zero, List.set_cons_succ]
          obtain rfl := (p42 (hd 14 (by decide))).symm
          rw [if_pos (by rfl)]
          have h23 : bb 23 = false := by cases h : bb 23 with | false => rfl | true => exact absurd (Q23 h 15 (by decide)) (by rw [hb]; decide)
          have hG : lz_Blk w' g A b_.length c at_ gm vo plain := (KB h23).blk HS.out.blk (by have := blk_lt HS.out.blk; omega) hgrow
          have hc : w'.cell? ⟨g, 1, none⟩ = some (.int .i64 at_) := blk_cell hG 1
          go_simp
          exact hK _ _ ⟨x28, x29, x30, x31, x32, x33, x34, x35, x36, x37, x38, x39, x40, x41, .pointer (some ⟨g, 1, none⟩), .int .i64 (at_ : Int), x44, x45, x46, x47, x48, x49, x50, by simp only [Act.put, List.setIfInBounds_toArray, List.set_cons_zero, List.set_cons_succ], fun _ => KB h23, HB, fun h => R0 (by simpa [upb] using h), fun h h2 => R1 (by simpa [upb] using h) (by simpa [upb] using h2), fun h h2 => R2 (by simpa [upb] using h) (by simpa [upb] using h2), fun h h2 => S1 (by simpa [upb] using h) (by simpa [upb] using h2), fun h => lz_upb (Q20 (by simpa [upb] using h)), fun h => absurd h (by simp [upb, h23]), fun h => lz_upb (Q22 (by simpa [upb] using h)), fun h => absurd h (by simp [upb, h23]), fun h => p28 (by simpa [upb] using h), fun h => p29 (by simpa [upb] using h), fun h => p30 (by simpa [upb] using h), fun h => p31 (by simpa [upb] using h), fun h => p32 (by simpa [upb] using h), fun h => p33 (by simpa [upb] using h), fun h => p34 (by simpa [upb] using h), fun h => p35 (by simpa [upb] using h), fun h => p36 (by simpa [upb] using h), fun h => p37 (by simpa [upb] using h), fun h => p40 (by simpa [upb] using h), fun h => p41 (by simpa [upb] using h), fun _ => rfl, fun _ => rfl, fun h => p44 (by simpa [upb] using h), fun h => p45 (by simpa [upb] using h), fun h => p46 (by simpa [upb] using h), fun h => p47 (by simpa [upb] using h), fun h => p49 (by simpa [upb] using h), fun h => p50 (by simpa [upb] using h)⟩
        case op16 =>
          rintro bb _ w' ⟨x28, x29, x30, x31, x32, x33, x34, x35, x36, x37, x38, x39, x40, x41, x42, x43, x44, x45, x46, x47, x48, x49, x50, rfl, KB, HB, R0, R1, R2, S1, Q20, F, Q22, Q23, p28, p29, p30, p31, p32, p33, p34, p35, p36, p37, p40, p41, p42, p43, p44, p45, p46, p47, p49, p50⟩ hb hd K hK
          simp only [Act.put, List.setIfInBounds_toArray, List.set_cons_zero, List.set_cons_succ]
          rw [if_pos (by rfl)]
          have h23 : bb 23 = false := by cases h : bb 23 with | false => rfl | true => exact absurd (Q23 h 16 (by decide)) (by rw [hb]; decide)
          go_simp
          exact hK _ _ ⟨x28, x29, x30, x31, x32, x33, x34, x35, x36, x37, x38, x39, x40, x41, x42, x43, .int .i64 (q : Int), x45, x46, x47, x48, x49, x50, by simp only [Act.put, List.setIfInBounds_toArray, List.set_cons_zero, List.set_cons_succ], fun _ => KB h23, HB, fun h => R0 (by simpa [upb] using h), fun h h2 => R1 (by simpa [upb] using h) (by simpa [upb] using h2), fun h h2 => R2 (by simpa [upb] using h) (by simpa [upb] using h2), fun h h2 => S1 (by simpa [upb] using h) (by simpa [upb] using h2), fun h => lz_upb (Q20 (by simpa [upb] using h)), fun h => absurd h (by simp [upb, h23]), fun h => lz_upb (Q22 (by simpa [upb] using h)), fun h => absurd h (by simp [upb, h23]), fun h => p28 (by simpa [upb] using h), fun h => p29 (by simpa [upb] using h), fun h => p30 (by simpa [upb] using h), fun h => p31 (by simpa [upb] using h), fun h => p32 (by simpa [upb] using h), fun h => p33 (by simpa [upb] using h), fun h => p34 (by simpa [upb] using h), fun h => p35 (by simpa [upb] using h), fun h => p36 (by simpa [upb] using h), fun h => p37 (by simpa [upb] using h), fun h => p40 (by simpa [upb] using h), fun h => p41 (by simpa [upb] using h), fun h => p42 (by simpa [upb] using h), fun h => p43 (by simpa [upb] using h), fun _ => rfl, fun h => p45 (by simpa [upb] using h), fun h => p46 (by simpa [upb] using h), fun h => p47 (by simpa [upb] using h), fun h => p49 (by simpa [upb] using h), fun h => p50 (by simpa [upb] using h)⟩
        case op17 =>
          rintro bb _ w' ⟨x28, x29, x30, x31, x32, x33, x34, x35, x36, x37, x38, x39, x40, x41, x42, x43, x44, x45, x46, x47, x48, x49, x50, rfl, KB, HB, R0, R1, R2, S1, Q20, F, Q22, Q23, p28, p29, p30, p31, p32, p33, p34, p35, p36, p37, p40, p41, p42, p43, p44, p45, p46, p47, p49, p50⟩ hb hd K hK
          simp only [Act.put, List.setIfInBounds_toArray, List.set_cons_zero, List.set_cons_succ]
          obtain rfl := (p43 (hd 15 (by decide))).symm
          obtain rfl := (p44 (hd 16 (by decide))).symm
          rw [if_pos (by rfl)]
          have h23 : bb 23 = false := by cases h : bb 23 with | false => rfl | true => exact absurd (Q23 h 17 (by decide)) (by rw [hb]; decide)
          have hw : IntKind.i64.wrap ((at_ : Int) - q) = (at_ : Int) - q := IntWalk.i64_in _ (by omega)
          go_simp
          exact hK _ _ ⟨x28, x29, x30, x31, x32, x33, x34, x35, x36, x37, x38, x39, x40, x41, x42, .int .i64 (at_ : Int), .int .i64 (q : Int), .int .i64 ((at_ : Int) - q), x46, x47, x48, x49, x50, by simp only [Act.put, List.setIfInBounds_toArray, List.set_cons_zero, List.set_cons_succ], fun _ => KB h23, HB, fun h => R0 (by simpa [upb] using h), fun h h2 => R1 (by simpa [upb] using h) (by simpa [upb] using h2), fun h h2 => R2 (by simpa [upb] using h) (by simpa [upb] using h2), fun h h2 => S1 (by simpa [upb] using h) (by simpa [upb] using h2), fun h => lz_upb (Q20 (by simpa [upb] using h)), fun h => absurd h (by simp [upb, h23]), fun h => lz_upb (Q22 (by simpa [upb] using h)), fun h => absurd h (by simp [upb, h23]), fun h => p28 (by simpa [upb] using h), fun h => p29 (by simpa [upb] using h), fun h => p30 (by simpa [upb] using h), fun h => p31 (by simpa [upb] using h), fun h => p32 (by simpa [upb] using h), fun h => p33 (by simpa [upb] using h), fun h => p34 (by simpa [upb] using h), fun h => p35 (by simpa [upb] using h), fun h => p36 (by simpa [upb] using h), fun h => p37 (by simpa [upb] using h), fun h => p40 (by simpa [upb] using h), fun h => p41 (by simpa [upb] using h), fun h => p42 (by simpa [upb] using h), fun _ => rfl, fun _ => rfl, fun _ => rfl, fun h => p46 (by simpa [upb] using h), fun h => p47 (by simpa [upb] using h), fun h => p49 (by simpa [upb] using h), fun h => p50 (by simpa [upb] using h)⟩
        case op18 =>
          rintro bb _ w' ⟨x28, x29, x30, x31, x32, x33, x34, x35, x36, x37, x38, x39, x40, x41, x42, x43, x44, x45, x46, x47, x48, x49, x50, rfl, KB, HB, R0, R1, R2, S1, Q20, F, Q22, Q23, p28, p29, p30, p31, p32, p33, p34, p35, p36, p37, p40, p41, p42, p43, p44, p45, p46, p47, p49, p50⟩ hb hd K hK
          simp only [Act.put, List.setIfInBounds_toArray, List.set_cons_zero, List.set_cons_succ]
          obtain rfl := (p45 (hd 17 (by decide))).symm
          rw [if_pos (by rfl)]
          have h23 : bb 23 = false := by cases h : bb 23 with | false => rfl | true => exact absurd (Q23 h 18 (by decide)) (by rw [hb]; decide)
          have hw : IntKind.i64.wrap ((at_ : Int) - q - 1) = (at_ : Int) - q - 1 := IntWalk.i64_in _ (by omega)
          go_simp
          exact hK _ _ ⟨x28, x29, x30, x31, x32, x33, x34, x35, x36, x37, x38, x39, x40, x41, x42, x43, x44, .int .i64 ((at_ : Int) - q), .int .i64 ((at_ : Int) - q - 1), x47, x48, x49, x50, by simp only [Act.put, List.setIfInBounds_toArray, List.set_cons_zero, List.set_cons_succ], fun _ => KB h23, HB, fun h => R0 (by simpa [upb] using h), fun h h2 => R1 (by simpa [upb] using h) (by simpa [upb] using h2), fun h h2 => R2 (by simpa [upb] using h) (by simpa [upb] using h2), fun h h2 => S1 (by simpa [upb] using h) (by simpa [upb] using h2), fun h => lz_upb (Q20 (by simpa [upb] using h)), fun h => absurd h (by simp [upb, h23]), fun h => lz_upb (Q22 (by simpa [upb] using h)), fun h => absurd h (by simp [upb, h23]), fun h => p28 (by simpa [upb] using h), fun h => p29 (by simpa [upb] using h), fun h => p30 (by simpa [upb] using h), fun h => p31 (by simpa [upb] using h), fun h => p32 (by simpa [upb] using h), fun h => p33 (by simpa [upb] using h), fun h => p34 (by simpa [upb] using h), fun h => p35 (by simpa [upb] using h), fun h => p36 (by simpa [upb] using h), fun h => p37 (by simpa [upb] using h), fun h => p40 (by simpa [upb] using h), fun h => p41 (by simpa [upb] using h), fun h => p42 (by simpa [upb] using h), fun h => p43 (by simpa [upb] using h), fun h => p44 (by simpa [upb] using h), fun _ => rfl, fun _ => rfl, fun h => p47 (by simpa [upb] using h), fun h => p49 (by simpa [upb] using h), fun h => p50 (by simpa [upb] using h)⟩
        case op19 =>
          rintro bb _ w' ⟨x28, x29, x30, x31, x32, x33, x34, x35, x36, x37, x38, x39, x40, x41, x42, x43, x44, x45, x46, x47, x48, x49, x50, rfl, KB, HB, R0, R1, R2, S1, Q20, F, Q22, Q23, p28, p29, p30, p31, p32, p33, p34, p35, p36, p37, p40, p41, p42, p43, p44, p45, p46, p47, p49, p50⟩ hb hd K hK
          simp only [Act.put, List.setIfInBounds_toArray, List.set_cons_zero, List.set_cons_succ]
          obtain rfl := (p46 (hd 18 (by decide))).symm
          rw [if_pos (by rfl)]
          have h23 : bb 23 = false := by cases h : bb 23 with | false => rfl | true => exact absurd (Q23 h 19 (by decide)) (by rw [hb]; decide)
          have hw : IntKind.u64.wrap ((at_ : Int) - q - 1) = (at_ : Int) - q - 1 := lz_u64 _ (by omega)
          go_simp
          exact hK _ _ ⟨x28, x29, x30, x31, x32, x33, x34, x35, x36, x37, x38, x39, x40, x41, x42, x43, x44, x45, .int .i64 ((at_ : Int) - q - 1), .int .u64 ((at_ : Int) - q - 1), x48, x49, x50, by simp only [Act.put, List.setIfInBounds_toArray, List.set_cons_zero, List.set_cons_succ], fun _ => KB h23, HB, fun h => R0 (by simpa [upb] using h), fun h h2 => R1 (by simpa [upb] using h) (by simpa [upb] using h2), fun h h2 => R2 (by simpa [upb] using h) (by simpa [upb] using h2), fun h h2 => S1 (by simpa [upb] using h) (by simpa [upb] using h2), fun h => lz_upb (Q20 (by simpa [upb] using h)), fun h => absurd h (by simp [upb, h23]), fun h => lz_upb (Q22 (by simpa [upb] using h)), fun h => absurd h (by simp [upb, h23]), fun h => p28 (by simpa [upb] using h), fun h => p29 (by simpa [upb] using h), fun h => p30 (by simpa [upb] using h), fun h => p31 (by simpa [upb] using h), fun h => p32 (by simpa [upb] using h), fun h => p33 (by simpa [upb] using h), fun h => p34 (by simpa [upb] using h), fun h => p35 (by simpa [upb] using h), fun h => p36 (by simpa [upb] using h), fun h => p37 (by simpa [upb] using h), fun h => p40 (by simpa [upb] using h), fun h => p41 (by simpa [upb] using h), fun h => p42 (by simpa [upb] using h), fun h => p43 (by simpa [upb] using h), fun h => p44 (by simpa [upb] using h), fun h => p45 (by simpa [upb] using h), fun _ => rfl, fun _ => rfl, fun h => p49 (by simpa [upb] using h), fun h => p50 (by simpa [upb] using h)⟩
        case op20 =>
          rintro bb _ w' ⟨x28, x29, x30, x31, x32, x33, x34, x35, x36, x37, x38, x39, x40, x41, x42, x43, x44, x45, x46, x47, x48, x49, x50, rfl, KB, HB, R0, R1, R2, S1, Q20, F, Q22, Q23, p28, p29, p30, p31, p32, p33, p34, p35, p36, p37, p40, p41, p42, p43, p44, p45, p46, p47, p49, p50⟩ hb hd K hK
          simp only [Act.put, List.setIfInBounds_toArray, List.set_cons_zero, List.set_cons_succ]
          obtain rfl := (p47 (hd 19 (by decide))).symm
          rw [if_pos (by rfl)]
          have h23 : bb 23 = false := by cases h : bb 23 with | false => rfl | true => exact absurd (Q23 h 20 (by decide)) (by rw [hb]; decide)
          have hR1 := R1 (hd 11 (by decide)) hb
          obtain ⟨a39, c39, e39, hc39, hC39⟩ := Kd.R_reads hR1
          subst e39
          have hPut := wire_Put.calls a39 c39 (out ++ [(2 * ((n : Int) - 3) + 1)]) ((at_ : Int) - q - 1) _ w' hC39 hc39 (lz_put_f _ _ (by omega) (by simp; omega))
          obtain ⟨n39, hn39⟩ : ∃ n39, (out ++ [(2 * ((n : Int) - 3) + 1)]).length = n39 := ⟨_, rfl⟩
          rw [hn39] at hPut ⊢
          go_simp
          refine hPut.mono ?_; rintro e w2 ⟨v48, rfl, hR48, hput⟩
          have hR3 : Kd.R (Kd.int .u8) 5 w2 w0.heap.size (fun _ => True) v48 (out ++ [(2 * ((n : Int) - 3) + 1)] ++ wire_vb 9 ((at_ : Int) - q - 1)) := Kd.R_lower hR48 HB.size
          try dsimp only
          exact hK _ _ ⟨x28, x29, x30, x31, x32, x33, x34, x35, x36, x37, x38, .slice a39 n39 c39, x40, x41, x42, x43, x44, x45, x46, .int .u64 ((at_ : Int) - q - 1), v48, x49, x50, by simp only [Act.put, List.setIfInBounds_toArray, List.set_cons_zero, List.set_cons_succ], fun _ => (KB h23).trans (KeepBut.of_below hput _ _) (.inl rfl), below_then HB HB.size hput, fun h => absurd (hd 11 (by decide)) (by simpa [upb] using h), fun _ h => absurd h (by simp [upb]), fun _ _ => hR3, fun _ h => absurd (hd 11 (by decide)) (by simpa [upb] using h), fun _ => lz_upb (hd 11 (by decide)), fun h => absurd h (by simp [upb, h23]), fun h => lz_upb (Q22 (by simpa [upb] using h)), fun h => absurd h (by simp [upb, h23]), fun h => p28 (by simpa [upb] using h), fun h => p29 (by simpa [upb] using h), fun h => p30 (by simpa [upb] using h), fun h => p31 (by simpa [upb] using h), fun h => p32 (by simpa [upb] using h), fun h => p33 (by simpa [upb] using h), fun h => p34 (by simpa [upb] using h), fun h => p35 (by simpa [upb] using h), fun h => p36 (by simpa [upb] using h), fun h => p37 (by simpa [upb] using h), fun h => p40 (by simpa [upb] using h), fun h => p41 (by simpa [upb] using h), fun h => p42 (by simpa [upb] using h), fun h => p43 (by simpa [upb] using h), fun h => p44 (by simpa [upb] using h), fun h => p45 (by simpa [upb] using h), fun h => p46 (by simpa [upb] using h), fun _ => rfl, fun h => p49 (by simpa [upb] using h), fun h => p50 (by simpa [upb] using h)⟩
        case op21 =>
          rintro bb _ w' ⟨x28, x29, x30, x31, x32, x33, x34, x35, x36, x37, x38, x39, x40, x41, x42, x43, x44, x45, x46, x47, x48, x49, x50, rfl, KB, HB, R0, R1, R2, S1, Q20, F, Q22, Q23, p28, p29, p30, p31, p32, p33, p34, p35, p36, p37, p40, p41, p42, p43, p44, p45, p46, p47, p49, p50⟩ hb hd K hK
          simp only [Act.put, List.setIfInBounds_toArray, List.set_cons_zero, List.set_cons_succ]
          obtain rfl := (p28 (hd 0 (by decide))).symm
          rw [if_pos (by rfl)]
          have h23 : bb 23 = false := by cases h : bb 23 with | false => rfl | true => exact absurd (Q23 h 21 (by decide)) (by rw [hb]; decide)
          have hG : lz_Blk w' g A b_.length c at_ gm vo plain := (KB h23).blk HS.out.blk (by have := blk_lt HS.out.blk; omega) hgrow
          have hc : w'.cell? ⟨g, 0, none⟩ = _ := blk_cell hG 0
          go_simp
          exact hK _ _ ⟨.pointer (some ⟨g, 0, none⟩), x29, x30, x31, x32, x33, x34, x35, x36, x37, x38, x39, x40, x41, x42, x43, x44, x45, x46, x47, x48, .pointer (some ⟨g, 0, none⟩), x50, by simp only [Act.put, List.setIfInBounds_toArray, List.set_cons_zero, List.set_cons_succ], fun _ => KB h23, HB, fun h => R0 (by simpa [upb] using h), fun h h2 => R1 (by simpa [upb] using h) (by simpa [upb] using h2), fun h h2 => R2 (by simpa [upb] using h) (by simpa [upb] using h2), fun h h2 => S1 (by simpa [upb] using h) (by simpa [upb] using h2), fun h => lz_upb (Q20 (by simpa [upb] using h)), fun h => absurd h (by simp [upb, h23]), fun h => lz_upb (Q22 (by simpa [upb] using h)), fun h => absurd h (by simp [upb, h23]), fun _ => rfl, fun h => p29 (by simpa [upb] using h), fun h => p30 (by simpa [upb] using h), fun h => p31 (by simpa [upb] using h), fun h => p32 (by simpa [upb] using h), fun h => p33 (by simpa [upb] using h), fun h => p34 (by simpa [upb] using h), fun h => p35 (by simpa [upb] using h), fun h => p36 (by simpa [upb] using h), fun h => p37 (by simpa [upb] using h), fun h => p40 (by simpa [upb] using h), fun h => p41 (by simpa [upb] using h), fun h => p42 (by simpa [upb] using h), fun h => p43 (by simpa [upb] using h), fun h => p44 (by simpa [upb] using h), fun h => p45 (by simpa [upb] using h), fun h => p46 (by simpa [upb] using h), fun h => p47 (by simpa [upb] using h), fun _ => rfl, fun h => p50 (by simpa [upb] using h)⟩
        case op22 =>
          rintro bb _ w' ⟨x28, x29, x30, x31, x32, x33, x34, x35, x36, x37, x38, x39, x40, x41, x42, x43, x44, x45, x46, x47, x48, x49, x50, rfl, KB, HB, R0, R1, R2, S1, Q20, F, Q22, Q23, p28, p29, p30, p31, p32, p33, p34, p35, p36, p37, p40, p41, p42, p43, p44, p45, p46, p47, p49, p50⟩ hb hd K hK
          simp only [Act.put, List.setIfInBounds_toArray, List.set_cons_zero, List.set_cons_succ]
          obtain rfl := (p49 (hd 21 (by decide))).symm
          rw [if_pos (by rfl)]
          have h23 : bb 23 = false := by cases h : bb 23 with | false => rfl | true => exact absurd (Q23 h 22 (by decide)) (by rw [hb]; decide)
          go_simp
          exact hK _ _ ⟨x28, x29, x30, x31, x32, x33, x34, x35, x36, x37, x38, x39, x40, x41, x42, x43, x44, x45, x46, x47, x48, .pointer (some ⟨g, 0, none⟩), .pointer (some ⟨g, 3, none⟩), by simp only [Act.put, List.setIfInBounds_toArray, List.set_cons_zero, List.set_cons_succ], fun _ => KB h23, HB, fun h => R0 (by simpa [upb] using h), fun h h2 => R1 (by simpa [upb] using h) (by simpa [upb] using h2), fun h h2 => R2 (by simpa [upb] using h) (by simpa [upb] using h2), fun h h2 => S1 (by simpa [upb] using h) (by simpa [upb] using h2), fun h => lz_upb (Q20 (by simpa [upb] using h)), fun h => absurd h (by simp [upb, h23]), fun _ => lz_upb (hd 21 (by decide)), fun h => absurd h (by simp [upb, h23]), fun h => p28 (by simpa [upb] using h), fun h => p29 (by simpa [upb] using h), fun h => p30 (by simpa [upb] using h), fun h => p31 (by simpa [upb] using h), fun h => p32 (by simpa [upb] using h), fun h => p33 (by simpa [upb] using h), fun h => p34 (by simpa [upb] using h), fun h => p35 (by simpa [upb] using h), fun h => p36 (by simpa [upb] using h), fun h => p37 (by simpa [upb] using h), fun h => p40 (by simpa [upb] using h), fun h => p41 (by simpa [upb] using h), fun h => p42 (by simpa [upb] using h), fun h => p43 (by simpa [upb] using h), fun h => p44 (by simpa [upb] using h), fun h => p45 (by simpa [upb] using h), fun h => p46 (by simpa [upb] using h), fun h => p47 (by simpa [upb] using h), fun _ => rfl, fun _ => rfl⟩
        case op23 =>
          rintro bb _ w' ⟨x28, x29, x30, x31, x32, x33, x34, x35, x36, x37, x38, x39, x40, x41, x42, x43, x44, x45, x46, x47, x48, x49, x50, rfl, KB, HB, R0, R1, R2, S1, Q20, F, Q22, Q23, p28, p29, p30, p31, p32, p33, p34, p35, p36, p37, p40, p41, p42, p43, p44, p45, p46, p47, p49, p50⟩ hb hd K hK
          simp only [Act.put, List.setIfInBounds_toArray, List.set_cons_zero, List.set_cons_succ]
          obtain rfl := (p50 (hd 22 (by decide))).symm
          rw [if_pos (by rfl)]
          have hR3 := R2 (hd 20 (by decide)) hb
          have hG : lz_Blk w' g A b_.length c at_ gm vo plain := (KB hb).blk HS.out.blk (by have := blk_lt HS.out.blk; omega) hgrow
          have hfin := lz_St.told1 HS.out (KB hb) hG HB hR3
          obtain ⟨g1, nl, cap1, hx16⟩ := lz_R_form hR3 (by simp; omega)
          subst hx16
          have hc3 : w'.cell? ⟨g, 3, none⟩ = some vo := blk_cell hG 3
          have hf3 : w'.frozen? ⟨g, 3, none⟩ = false := blk_frozen hG 3
          go_simp
          exact hK _ _ ⟨x28, x29, x30, x31, x32, x33, x34, x35, x36, x37, x38, x39, x40, x41, x42, x43, x44, x45, x46, x47, .slice (some ⟨g1, 0, none⟩) nl cap1, x49, .pointer (some ⟨g, 3, none⟩), by simp only [Act.put, List.setIfInBounds_toArray, List.set_cons_zero, List.set_cons_succ], fun h => absurd h (by simp [upb]), HB.setCell HS.out.gb _, fun h => absurd (hd 11 (by decide)) (by simpa [upb] using h), fun _ h => absurd (hd 20 (by decide)) (by simpa [upb] using h), fun _ h => absurd h (by simp [upb]), fun _ h => absurd (hd 11 (by decide)) (by simpa [upb] using h), fun _ => lz_upb (hd 11 (by decide)), fun _ => hfin, fun h => lz_upb (Q22 (by simpa [upb] using h)), fun _ j hj => lz_upb (lz_q23 (fun j hj => hd j (lz_mem23 _ (by decide) j hj)) (Q22 (hd 22 (by decide))) j hj), fun h => p28 (by simpa [upb] using h), fun h => p29 (by simpa [upb] using h), fun h => p30 (by simpa [upb] using h), fun h => p31 (by simpa [upb] using h), fun h => p32 (by simpa [upb] using h), fun h => p33 (by simpa [upb] using h), fun h => p34 (by simpa [upb] using h), fun h => p35 (by simpa [upb] using h), fun h => p36 (by simpa [upb] using h), fun h => p37 (by simpa [upb] using h), fun h => p40 (by simpa [upb] using h), fun h => p41 (by simpa [upb] using h), fun h => p42 (by simpa [upb] using h), fun h => p43 (by simpa [upb] using h), fun h => p44 (by simpa [upb] using h), fun h => p45 (by simpa [upb] using h), fun h => p46 (by simpa [upb] using h), fun h => p47 (by simpa [upb] using h), fun h => p49 (by simpa [upb] using h), fun _ => rfl⟩
        case done =>
          rintro bb _ w' hb ⟨x28, x29, x30, x31, x32, x33, x34, x35, x36, x37, x38, x39, x40, x41, x42, x43, x44, x45, x46, x47, x48, x49, x50, rfl, KB, HB, R0, R1, R2, S1, Q20, F, Q22, Q23, p28, p29, p30, p31, p32, p33, p34, p35, p36, p37, p40, p41, p42, p43, p44, p45, p46, p47, p49, p50⟩
          obtain rfl := (p28 (hb 0 (by decide))).symm
          obtain rfl := (p29 (hb 1 (by decide))).symm
          obtain rfl := (p30 (hb 2 (by decide))).symm
          obtain rfl := (p31 (hb 3 (by decide))).symm
          obtain rfl := (p32 (hb 4 (by decide))).symm
          obtain rfl := (p33 (hb 5 (by decide))).symm
          obtain rfl := (p34 (hb 6 (by decide))).symm
          obtain rfl := (p35 (hb 7 (by decide))).symm
          obtain rfl := (p36 (hb 8 (by decide))).symm
          obtain rfl := (p37 (hb 9 (by decide))).symm
          obtain rfl := (p40 (hb 12 (by decide))).symm
          obtain rfl := (p41 (hb 13 (by decide))).symm
          obtain rfl := (p42 (hb 14 (by decide))).symm
          obtain rfl := (p43 (hb 15 (by decide))).symm
          obtain rfl := (p44 (hb 16 (by decide))).symm
          obtain rfl := (p45 (hb 17 (by decide))).symm
          obtain rfl := (p46 (hb 18 (by decide))).symm
          obtain rfl := (p47 (hb 19 (by decide))).symm
          obtain rfl := (p49 (hb 21 (by decide))).symm
          obtain rfl := (p50 (hb 22 (by decide))).symm
          simp only [Act.put, List.setIfInBounds_toArray, List.set_cons_zero, List.set_cons_succ]
          have HS2 := Lib.hid (F (hb 23 (by decide)))
          clear KB HB R0 R1 R2 S1 Q20 F Q22 Q23 hb
          go_wp2_with fail
          refine (lz_goes_calls w0 _ g gm A c b_ at_ plain n x48 _ L HC.out hc hl HK.out hb4 HS2.out).mono ?_; rintro e w3 ⟨rfl, L3, hS3⟩
          obtain ⟨at2, hat2⟩ : ∃ at2, at_ + n = at2 := ⟨_, rfl⟩
          rw [hat2] at hS3
          have HA2 := Lib.hid hat2
          have k1 : w3.cell? ⟨g, 1, none⟩ = some (.int .i64 at2) := blk_cell hS3.blk 1
          have k4 : w3.cell? ⟨g, 4, none⟩ = some (.int .i64 plain) := blk_cell hS3.blk 4
          have kf : w3.frozen? ⟨g, 4, none⟩ = false := blk_frozen hS3.blk 4
          have HS3 := Lib.hid hS3
          clear hS3 hat2
          go_wp2_with fail
          exact lz_loop_take HS3.out HA2.out HBQ.out hat ho2 hlt hf HF.out HOUT.out HM.out
    · obtain ⟨f, rfl⟩ : ∃ f', f = f' + 1 := ⟨f - 1, by omega⟩
      have hend := lz_end_eq (plain := plain0) (out := out0) (f := f) hlt
      rw [HF.out] at hend
      have HE := Lib.hid hend
      clear hend
      go_wp2_with fail
      refine (lz_literals_calls w0 wr g gm A c b_ at_ plain0 vo0 out0 R L HC.out hc hl hat hpl ho HS0.out HE.out.symm).mono ?_; rintro e w2 ⟨rfl, P, v2, hS2, ho2⟩
      have k3 : w2.cell? ⟨g, 3, none⟩ = some v2 := blk_cell hS2.blk 3
      have HS2 := Lib.hid hS2
      clear hS2
      go_wp2_with fail
      go_ret
      exact ⟨_, rfl, HS2.out.out, HS2.out.hb⟩
end Go.Proofs.YtigcgdhihaibbaaDoor.PLz
