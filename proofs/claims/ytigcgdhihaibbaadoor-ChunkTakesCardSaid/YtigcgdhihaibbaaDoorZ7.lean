import Derived.Test.YtigcgdhihaibbaaDoorZ6
namespace Go.Proofs.YtigcgdhihaibbaaDoor.PLz
open Go.RowKit Go.Proofs.YtigcgdhihaibbaaDoorW.PrintWords Go.Proofs.YtigcgdhihaibbaaDoorW.PrintLast Go.Proofs.YtigcgdhihaibbaaDoorW.PrintMore
attribute [local go_sem] max2_int min2_int max_two min_two max_three min_three max_four min_four   -- for this text's walks alone
set_option linter.unusedVariables false
set_option linter.unusedSimpArgs false
theorem info3 : (Tryd.prog.info? 3).map (fun i => (i.zero, i.size, i.bytes)) = some (some (.int .i64 0), 1, 8) := by kernel_rfl
theorem lz_q14 {b : Nat → Bool} {i : Nat} (h : b 10 = true ∧ b 9 = true ∧ b 12 = true) : upb b i 10 = true ∧ upb b i 9 = true ∧ upb b i 12 = true := by
  obtain ⟨h1, h2, h3⟩ := h
  simp [upb, h1, h2, h3]
theorem lz_one_cell {W : World} {g t j : Nat} {v u : Value} (h : W.heap[g]? = some (.cells #[v] t (0, 0))) (hj : [v][j]? = some u) : W.cell? ⟨g, j, none⟩ = some u := by
  rw [blk_cell h j]
  simpa using hj
theorem lz_R_ints {W : World} {B n : Nat} {v : Value} {xs : List Int} {vs : List Value} (hv : vs = xs.map (Value.int .i64)) (h : W.ownsRow B 3 1 v n vs) : Kd.R (Kd.int .i64) 3 W B (fun _ => True) v xs := by
  subst hv
  have hn : xs.length = n := by have := h.1; simpa using this
  subst hn
  exact Kd.R_of_own h (fun _ _ => trivial)
theorem lz_entry' {W : World} {gm : Nat} {L : List ((Int × Int × Int) × Value)} (h : lz_Map W gm L) (x y z : Int) (hk : lz_kb (x, y, z)) :
    ∃ (es : Array MapEntry) (clock st : Nat) (es1 : Array MapEntry) (clock1 : Nat), W.heap[gm]? = some (.map es clock) ∧ (∀ w' : World, w'.heap[gm]? = some (.map es clock) → (Instr.mapEntry 67 (.map (some gm)) (.agg #[.int .u8 x, .int .u8 y, .int .u8 z])).run Tryd.prog w' = .ok (.tuple #[lz_get L (x, y, z), .int .i64 st]) (ChangeMaps.setBlock w' gm (.map es1 clock1))) ∧
      ∀ (w2 : World) (val : Value), w2.heap[gm]? = some (.map es1 clock1) → ∃ es' clock', (Instr.entryStore 67 (.map (some gm)) (.int .i64 st) val).run Tryd.prog w2 = .ok () (ChangeMaps.setBlock w2 gm (.map es' clock')) ∧ lz_Map (ChangeMaps.setBlock w2 gm (.map es' clock')) gm (lz_put L (x, y, z) val) := lz_entry h (x, y, z) hk
theorem lz_Seen.pass {W : World} {B gm : Nat} {b : List Int} {at_ : Nat} {L : List ((Int × Int × Int) × Value)} (h : lz_Seen W B gm b at_ L) (h3 : ¬ at_ + 3 ≤ b.length) : lz_Seen W B gm b (at_ + 1) L :=
  ⟨h.map, fun k => by rw [lz_poss_next, if_neg (fun e => h3 e.1)]; exact h.row k, h.apart⟩
theorem lz_cells_map {W : World} {t gm ty : Nat} {cs : Array Value} {f : Nat × Nat} {es : Array MapEntry} {c : Nat} (h : W.heap[t]? = some (.cells cs ty f)) (hm : W.heap[gm]? = some (.map es c)) : t ≠ gm := by
  intro e
  subst e
  rw [h] at hm
  cases hm
theorem lz_poss_le (b : List Int) (at_ : Nat) (k : Int × Int × Int) : (lz_poss b at_ k).length ≤ at_ := by
  refine Nat.le_trans (List.length_filter_le _ _) ?_
  rw [List.length_range]; omega
set_option maxHeartbeats 4000000 in
theorem lz_goes_calls (w0 W0 : World) (g gm : Nat) (A : Option Addr) (c : Nat) (b_ : List Int) (at0 plain n : Nat) (vo : Value) (out : List Int) (L0 : List ((Int × Int × Int) × Value)) (hC : Kd.C (Kd.int .u8) w0 A b_.length b_) (hc : b_.length ≤ c) (hl : b_.length ≤ 1000000) (hkb : ∀ x ∈ b_, 0 ≤ x ∧ x < 256)
    (hat : at0 + n ≤ b_.length) (hS : lz_St w0 W0 g gm A c b_ at0 plain vo out L0) :
    Calls Tryd.prog 29 #[.pointer (some ⟨g, 0, none⟩), .int .i64 n] W0 fun e w' => e = .returned (.tuple #[]) ∧ ∃ L, lz_St w0 w' g gm A c b_ (at0 + n) plain vo out L := by
  have HS0 := Lib.hid hS
  have HC0 := Lib.hid hC
  have HK := Lib.hid hkb
  clear hS hC hkb
  go_enter Tryd.func29, Tryd.ntmps29
  go_wp2_with fail
  go_loopw [7] (fun vi wr => ∃ (k : Nat) (L : List ((Int × Int × Int) × Value)), vi = .int .i64 k ∧ k ≤ n ∧ Hid (lz_St w0 wr g gm A c b_ (at0 + k) plain vo out L)) (fun vi _ => n - (intOf vi).toNat)
  case atStart => exact ⟨0, L0, rfl, by omega, HS0⟩
  case round =>
    obtain ⟨k, L, rfl, hk, HST⟩ := hrel
    by_cases hlt : k < n
    · obtain ⟨at_, hat_⟩ : ∃ at_, at0 + k = at_ := ⟨_, rfl⟩
      rw [hat_] at HST
      have HAT := Lib.hid hat_
      have hlt' : (k : Int) < n := by omega
      have hatb : at_ < b_.length := by omega
      clear hat_
      have hc1 : wr.cell? ⟨g, 1, none⟩ = some (.int .i64 at_) := blk_cell HST.out.blk 1
      by_cases h3 : at_ + 3 ≤ b_.length
      · go_wp2_with fail
        refine (lz_three_yes _ g gm A c b_ at_ at_ plain vo HST.out.blk (Kd.C_below HC0.out HST.out.hb) hc h3 hl).mono ?_; rintro e w1 ⟨rfl, hB1⟩
        obtain ⟨x, y, z, hkey, hkb⟩ : ∃ x y z : Int, lz_key b_ at_ = (x, y, z) ∧ lz_kb (x, y, z) := ⟨_, _, _, rfl, lz_kb_key HK.out h3⟩
        have HKB := Lib.hid hkb
        have hkv : lz_kv (lz_key b_ at_) = .agg #[.int .u8 x, .int .u8 y, .int .u8 z] := by rw [hkey]; rfl
        rw [hkv]
        have HKEY := Lib.hid hkey
        have hB2 : Below wr.heap.size wr (w1.alloc (.cells #[.int .u8 x, .int .u8 y, .int .u8 z] 86)) := below_alloc hB1 _
        have hT : (w1.alloc (.cells #[.int .u8 x, .int .u8 y, .int .u8 z] 86)).heap[w1.heap.size]? = some (.cells #[.int .u8 x, .int .u8 y, .int .u8 z] 86 (0, 0)) := heap_alloc_new _ _
        have hST2 := HST.out.next hB2
        have HST2 := Lib.hid hST2
        have HT := Lib.hid hT
        clear hB1 hB2 hT hST2 hkb hkv hkey hc1
        go_wp2_with fail
        obtain ⟨W, hW⟩ : ∃ W, w1.alloc (.cells #[.int .u8 x, .int .u8 y, .int .u8 z] 86) = W := ⟨_, rfl⟩
        obtain ⟨t4, ht4⟩ : ∃ t4, w1.heap.size = t4 := ⟨_, rfl⟩
        rw [hW] at HST2 HT ⊢
        rw [ht4] at HT ⊢
        clear hW ht4
        have HG := Lib.hid HST2.out.blk
        have HW := Lib.hid HST2.out.hb
        have HS := Lib.hid HST2.out.seen
        obtain ⟨es, clock, st, es1, clock1, hes, hent, hsto⟩ := lz_entry' HS.out.map x y z HKB.out
        rw [← HKEY.out] at hent hsto
        have hR := HS.out.row (lz_key b_ at_)
        obtain ⟨l, hll⟩ : ∃ l, lz_ints (lz_poss b_ at_ (lz_key b_ at_)) = l := ⟨_, rfl⟩
        have hlen : l.length ≤ 1000000 := by rw [← hll, lz_ints_len]; have := lz_poss_le b_ at_ (lz_key b_ at_); omega
        rw [hll] at hR
        have HL := Lib.hid hll
        have HR := Lib.hid hR
        have hgml : gm < W.heap.size := lz_Map_lt HS.out.map
        have hgmb : w0.heap.size ≤ gm := HST2.out.gmb
        have hgne : g ≠ gm := lz_g_gm HG.out HS.out.map
        have hgrow : some g ≠ (lz_get L (lz_key b_ at_)).ownBlock := lz_g_row HG.out hR
        have ht4ne : t4 ≠ gm := lz_cells_map HT.out hes
        have ht4row : some t4 ≠ (lz_get L (lz_key b_ at_)).ownBlock := Kd.R_ne hR HT.out (by decide)
        clear hR hll
        refine wp_region_inv (fun a0 w_0 b a' w' => ∃ x19 x20 x21 x22 x23 x25 x26 x27 x28 x29 x30 x24 x31 x32 : Value, a' = ((((((((((((((a0.put (some 19) x19).put (some 20) x20).put (some 21) x21).put (some 22) x22).put (some 23) x23).put (some 25) x25).put (some 26) x26).put (some 27) x27).put (some 28) x28).put (some 29) x29).put (some 30) x30).put (some 24) x24).put (some 31) x31).put (some 32) x32) ∧ KeepBut W w' gm (lz_get L (lz_key b_ at_)).ownBlock ∧ Below w0.heap.size w0 w' ∧ (b 10 = false → w'.heap[gm]? = some (.map es clock)) ∧ (b 10 = true → b 14 = false → w'.heap[gm]? = some (.map es1 clock1)) ∧ (b 14 = true → lz_Map w' gm (lz_put L (lz_key b_ at_) x31)) ∧ (b 12 = false → Kd.R (Kd.int .i64) 3 w' w0.heap.size (fun _ => True) (lz_get L (lz_key b_ at_)) l) ∧ (b 12 = true → Kd.R (Kd.int .i64) 3 w' w0.heap.size (fun _ => True) x31 (l ++ [(at_ : Int)]) ∧ (x31.ownBlock = (lz_get L (lz_key b_ at_)).ownBlock ∨ ∃ q, x31.ownBlock = some q ∧ W.heap.size ≤ q)) ∧ (b 9 = true → b 12 = false → ∃ gN, x29 = .slice (some ⟨gN, 0, none⟩) 1 1 ∧ W.heap.size ≤ gN ∧ w'.heap[gN]? = some (.cells #[.int .i64 at_] 3 (0, 0))) ∧ (b 14 = true → b 10 = true ∧ b 9 = true ∧ b 12 = true) ∧ (b 0 = true → x19 = .pointer (some ⟨g, 0, none⟩)) ∧ (b 1 = true → x20 = .pointer (some ⟨g, 0, none⟩)) ∧ (b 2 = true → x21 = .pointer (some ⟨g, 2, none⟩)) ∧ (b 3 = true → x22 = .map (some gm)) ∧ (b 4 = true → x23 = .agg #[.int .u8 x, .int .u8 y, .int .u8 z]) ∧ (b 5 = true → x25 = .pointer (some ⟨g, 0, none⟩)) ∧ (b 6 = true → x26 = .pointer (some ⟨g, 0, none⟩)) ∧ (b 7 = true → x27 = .pointer (some ⟨g, 1, none⟩)) ∧ (b 8 = true → x28 = .int .i64 at_) ∧ (b 10 = true → x30 = .tuple #[(lz_get L (lz_key b_ at_)), (.int .i64 st)]) ∧ (b 11 = true → x24 = (lz_get L (lz_key b_ at_))) ∧ (b 13 = true → x32 = (.int .i64 st))) (by kernel_rfl) (by kernel_rfl) ?start ⟨?op0, ?op1, ?op2, ?op3, ?op4, ?op5, ?op6, ?op7, ?op8, ?op9, ?op10, ?op11, ?op12, ?op13, ?op14, trivial⟩ ?done
        case start => exact ⟨_, _, _, _, _, _, _, _, _, _, _, _, _, _, by simp only [Act.put, List.setIfInBounds_toArray, List.set_cons_zero, List.set_cons_succ]; rfl, KeepBut.of_below (below_drew1 (Below.refl _ _)) gm _, below_drew1 HW.out, fun _ => hes, fun h => absurd h (by decide), fun h => absurd h (by decide), fun _ => Kd.R_drew HR.out, fun h => absurd h (by decide), fun h => absurd h (by decide), fun h => absurd h (by decide), fun h => absurd h (by decide), fun h => absurd h (by decide), fun h => absurd h (by decide), fun h => absurd h (by decide), fun h => absurd h (by decide), fun h => absurd h (by decide), fun h => absurd h (by decide), fun h => absurd h (by decide), fun h => absurd h (by decide), fun h => absurd h (by decide), fun h => absurd h (by decide), fun h => absurd h (by decide)⟩
        case op0 =>
          rintro bb _ w' ⟨x19, x20, x21, x22, x23, x25, x26, x27, x28, x29, x30, x24, x31, x32, rfl, KB, HB, M1, M2, M3, R1, R2, S1, Q14, p19, p20, p21, p22, p23, p25, p26, p27, p28, p30, p24, p32⟩ hb hd K hK
          simp only [Act.put, List.setIfInBounds_toArray, List.set_cons_zero, List.set_cons_succ]
          rw [if_pos (by rfl)]
          go_simp
          exact hK _ _ ⟨.pointer (some ⟨g, 0, none⟩), x20, x21, x22, x23, x25, x26, x27, x28, x29, x30, x24, x31, x32, by simp only [Act.put, List.setIfInBounds_toArray, List.set_cons_zero, List.set_cons_succ], KB, HB, fun h => M1 (by simpa [upb] using h), fun h h2 => M2 (by simpa [upb] using h) (by simpa [upb] using h2), fun h => M3 (by simpa [upb] using h), fun h => R1 (by simpa [upb] using h), fun h => R2 (by simpa [upb] using h), fun h h2 => S1 (by simpa [upb] using h) (by simpa [upb] using h2), fun h => lz_q14 (Q14 (by simpa [upb] using h)), fun _ => rfl, fun h => p20 (by simpa [upb] using h), fun h => p21 (by simpa [upb] using h), fun h => p22 (by simpa [upb] using h), fun h => p23 (by simpa [upb] using h), fun h => p25 (by simpa [upb] using h), fun h => p26 (by simpa [upb] using h), fun h => p27 (by simpa [upb] using h), fun h => p28 (by simpa [upb] using h), fun h => p30 (by simpa [upb] using h), fun h => p24 (by simpa [upb] using h), fun h => p32 (by simpa [upb] using h)⟩
        case op1 =>
          rintro bb _ w' ⟨x19, x20, x21, x22, x23, x25, x26, x27, x28, x29, x30, x24, x31, x32, rfl, KB, HB, M1, M2, M3, R1, R2, S1, Q14, p19, p20, p21, p22, p23, p25, p26, p27, p28, p30, p24, p32⟩ hb hd K hK
          simp only [Act.put, List.setIfInBounds_toArray, List.set_cons_zero, List.set_cons_succ]
          obtain rfl := p19 (hd 0 (by decide))
          rw [if_pos (by rfl)]
          have hG : lz_Blk w' g A b_.length c at_ gm vo plain := KB.blk HG.out hgne hgrow
          have hc : w'.cell? ⟨g, 0, none⟩ = _ := blk_cell hG 0
          go_simp
          exact hK _ _ ⟨.pointer (some ⟨g, 0, none⟩), .pointer (some ⟨g, 0, none⟩), x21, x22, x23, x25, x26, x27, x28, x29, x30, x24, x31, x32, by simp only [Act.put, List.setIfInBounds_toArray, List.set_cons_zero, List.set_cons_succ], KB, HB, fun h => M1 (by simpa [upb] using h), fun h h2 => M2 (by simpa [upb] using h) (by simpa [upb] using h2), fun h => M3 (by simpa [upb] using h), fun h => R1 (by simpa [upb] using h), fun h => R2 (by simpa [upb] using h), fun h h2 => S1 (by simpa [upb] using h) (by simpa [upb] using h2), fun h => lz_q14 (Q14 (by simpa [upb] using h)), fun _ => rfl, fun _ => rfl, fun h => p21 (by simpa [upb] using h), fun h => p22 (by simpa [upb] using h), fun h => p23 (by simpa [upb] using h), fun h => p25 (by simpa [upb] using h), fun h => p26 (by simpa [upb] using h), fun h => p27 (by simpa [upb] using h), fun h => p28 (by simpa [upb] using h), fun h => p30 (by simpa [upb] using h), fun h => p24 (by simpa [upb] using h), fun h => p32 (by simpa [upb] using h)⟩
        case op2 =>
          rintro bb _ w' ⟨x19, x20, x21, x22, x23, x25, x26, x27, x28, x29, x30, x24, x31, x32, rfl, KB, HB, M1, M2, M3, R1, R2, S1, Q14, p19, p20, p21, p22, p23, p25, p26, p27, p28, p30, p24, p32⟩ hb hd K hK
          simp only [Act.put, List.setIfInBounds_toArray, List.set_cons_zero, List.set_cons_succ]
          obtain rfl := p20 (hd 1 (by decide))
          rw [if_pos (by rfl)]
          go_simp
          exact hK _ _ ⟨x19, .pointer (some ⟨g, 0, none⟩), .pointer (some ⟨g, 2, none⟩), x22, x23, x25, x26, x27, x28, x29, x30, x24, x31, x32, by simp only [Act.put, List.setIfInBounds_toArray, List.set_cons_zero, List.set_cons_succ], KB, HB, fun h => M1 (by simpa [upb] using h), fun h h2 => M2 (by simpa [upb] using h) (by simpa [upb] using h2), fun h => M3 (by simpa [upb] using h), fun h => R1 (by simpa [upb] using h), fun h => R2 (by simpa [upb] using h), fun h h2 => S1 (by simpa [upb] using h) (by simpa [upb] using h2), fun h => lz_q14 (Q14 (by simpa [upb] using h)), fun h => p19 (by simpa [upb] using h), fun _ => rfl, fun _ => rfl, fun h => p22 (by simpa [upb] using h), fun h => p23 (by simpa [upb] using h), fun h => p25 (by simpa [upb] using h), fun h => p26 (by simpa [upb] using h), fun h => p27 (by simpa [upb] using h), fun h => p28 (by simpa [upb] using h), fun h => p30 (by simpa [upb] using h), fun h => p24 (by simpa [upb] using h), fun h => p32 (by simpa [upb] using h)⟩
        case op3 =>
          rintro bb _ w' ⟨x19, x20, x21, x22, x23, x25, x26, x27, x28, x29, x30, x24, x31, x32, rfl, KB, HB, M1, M2, M3, R1, R2, S1, Q14, p19, p20, p21, p22, p23, p25, p26, p27, p28, p30, p24, p32⟩ hb hd K hK
          simp only [Act.put, List.setIfInBounds_toArray, List.set_cons_zero, List.set_cons_succ]
          obtain rfl := p21 (hd 2 (by decide))
          rw [if_pos (by rfl)]
          have hG : lz_Blk w' g A b_.length c at_ gm vo plain := KB.blk HG.out hgne hgrow
          have hc : w'.cell? ⟨g, 2, none⟩ = _ := blk_cell hG 2
          simp at hc
          go_simp
          exact hK _ _ ⟨x19, x20, .pointer (some ⟨g, 2, none⟩), .map (some gm), x23, x25, x26, x27, x28, x29, x30, x24, x31, x32, by simp only [Act.put, List.setIfInBounds_toArray, List.set_cons_zero, List.set_cons_succ], KB, HB, fun h => M1 (by simpa [upb] using h), fun h h2 => M2 (by simpa [upb] using h) (by simpa [upb] using h2), fun h => M3 (by simpa [upb] using h), fun h => R1 (by simpa [upb] using h), fun h => R2 (by simpa [upb] using h), fun h h2 => S1 (by simpa [upb] using h) (by simpa [upb] using h2), fun h => lz_q14 (Q14 (by simpa [upb] using h)), fun h => p19 (by simpa [upb] using h), fun h => p20 (by simpa [upb] using h), fun _ => rfl, fun _ => rfl, fun h => p23 (by simpa [upb] using h), fun h => p25 (by simpa [upb] using h), fun h => p26 (by simpa [upb] using h), fun h => p27 (by simpa [upb] using h), fun h => p28 (by simpa [upb] using h), fun h => p30 (by simpa [upb] using h), fun h => p24 (by simpa [upb] using h), fun h => p32 (by simpa [upb] using h)⟩
        case op4 =>
          rintro bb _ w' ⟨x19, x20, x21, x22, x23, x25, x26, x27, x28, x29, x30, x24, x31, x32, rfl, KB, HB, M1, M2, M3, R1, R2, S1, Q14, p19, p20, p21, p22, p23, p25, p26, p27, p28, p30, p24, p32⟩ hb hd K hK
          simp only [Act.put, List.setIfInBounds_toArray, List.set_cons_zero, List.set_cons_succ]
          rw [if_pos (by rfl)]
          have hT := KB.blk HT.out ht4ne ht4row
          have t0 : w'.cell? ⟨t4, 0, none⟩ = some (.int .u8 x) := blk_cell hT 0
          have t1 : w'.cell? ⟨t4, 1, none⟩ = some (.int .u8 y) := blk_cell hT 1
          have t2 : w'.cell? ⟨t4, 2, none⟩ = some (.int .u8 z) := blk_cell hT 2
          go_simp
          exact hK _ _ ⟨x19, x20, x21, x22, .agg #[.int .u8 x, .int .u8 y, .int .u8 z], x25, x26, x27, x28, x29, x30, x24, x31, x32, by simp only [Act.put, List.setIfInBounds_toArray, List.set_cons_zero, List.set_cons_succ], KB, HB, fun h => M1 (by simpa [upb] using h), fun h h2 => M2 (by simpa [upb] using h) (by simpa [upb] using h2), fun h => M3 (by simpa [upb] using h), fun h => R1 (by simpa [upb] using h), fun h => R2 (by simpa [upb] using h), fun h h2 => S1 (by simpa [upb] using h) (by simpa [upb] using h2), fun h => lz_q14 (Q14 (by simpa [upb] using h)), fun h => p19 (by simpa [upb] using h), fun h => p20 (by simpa [upb] using h), fun h => p21 (by simpa [upb] using h), fun h => p22 (by simpa [upb] using h), fun _ => rfl, fun h => p25 (by simpa [upb] using h), fun h => p26 (by simpa [upb] using h), fun h => p27 (by simpa [upb] using h), fun h => p28 (by simpa [upb] using h), fun h => p30 (by simpa [upb] using h), fun h => p24 (by simpa [upb] using h), fun h => p32 (by simpa [upb] using h)⟩
        case op5 =>
          rintro bb _ w' ⟨x19, x20, x21, x22, x23, x25, x26, x27, x28, x29, x30, x24, x31, x32, rfl, KB, HB, M1, M2, M3, R1, R2, S1, Q14, p19, p20, p21, p22, p23, p25, p26, p27, p28, p30, p24, p32⟩ hb hd K hK
          simp only [Act.put, List.setIfInBounds_toArray, List.set_cons_zero, List.set_cons_succ]
          rw [if_pos (by rfl)]
          go_simp
          exact hK _ _ ⟨x19, x20, x21, x22, x23, .pointer (some ⟨g, 0, none⟩), x26, x27, x28, x29, x30, x24, x31, x32, by simp only [Act.put, List.setIfInBounds_toArray, List.set_cons_zero, List.set_cons_succ], KB, HB, fun h => M1 (by simpa [upb] using h), fun h h2 => M2 (by simpa [upb] using h) (by simpa [upb] using h2), fun h => M3 (by simpa [upb] using h), fun h => R1 (by simpa [upb] using h), fun h => R2 (by simpa [upb] using h), fun h h2 => S1 (by simpa [upb] using h) (by simpa [upb] using h2), fun h => lz_q14 (Q14 (by simpa [upb] using h)), fun h => p19 (by simpa [upb] using h), fun h => p20 (by simpa [upb] using h), fun h => p21 (by simpa [upb] using h), fun h => p22 (by simpa [upb] using h), fun h => p23 (by simpa [upb] using h), fun _ => rfl, fun h => p26 (by simpa [upb] using h), fun h => p27 (by simpa [upb] using h), fun h => p28 (by simpa [upb] using h), fun h => p30 (by simpa [upb] using h), fun h => p24 (by simpa [upb] using h), fun h => p32 (by simpa [upb] using h)⟩
        case op6 =>
          rintro bb _ w' ⟨x19, x20, x21, x22, x23, x25, x26, x27, x28, x29, x30, x24, x31, x32, rfl, KB, HB, M1, M2, M3, R1, R2, S1, Q14, p19, p20, p21, p22, p23, p25, p26, p27, p28, p30, p24, p32⟩ hb hd K hK
          simp only [Act.put, List.setIfInBounds_toArray, List.set_cons_zero, List.set_cons_succ]
          obtain rfl := p25 (hd 5 (by decide))
          rw [if_pos (by rfl)]
          have hG : lz_Blk w' g A b_.length c at_ gm vo plain := KB.blk HG.out hgne hgrow
          have hc : w'.cell? ⟨g, 0, none⟩ = _ := blk_cell hG 0
          go_simp
          exact hK _ _ ⟨x19, x20, x21, x22, x23, .pointer (some ⟨g, 0, none⟩), .pointer (some ⟨g, 0, none⟩), x27, x28, x29, x30, x24, x31, x32, by simp only [Act.put, List.setIfInBounds_toArray, List.set_cons_zero, List.set_cons_succ], KB, HB, fun h => M1 (by simpa [upb] using h), fun h h2 => M2 (by simpa [upb] using h) (by simpa [upb] using h2), fun h => M3 (by simpa [upb] using h), fun h => R1 (by simpa [upb] using h), fun h => R2 (by simpa [upb] using h), fun h h2 => S1 (by simpa [upb] using h) (by simpa [upb] using h2), fun h => lz_q14 (Q14 (by simpa [upb] using h)), fun h => p19 (by simpa [upb] using h), fun h => p20 (by simpa [upb] using h), fun h => p21 (by simpa [upb] using h), fun h => p22 (by simpa [upb] using h), fun h => p23 (by simpa [upb] using h), fun _ => rfl, fun _ => rfl, fun h => p27 (by simpa [upb] using h), fun h => p28 (by simpa [upb] using h), fun h => p30 (by simpa [upb] using h), fun h => p24 (by simpa [upb] using h), fun h => p32 (by simpa [upb] using h)⟩
        case op7 =>
          rintro bb _ w' ⟨x19, x20, x21, x22, x23, x25, x26, x27, x28, x29, x30, x24, x31, x32, rfl, KB, HB, M1, M2, M3, R1, R2, S1, Q14, p19, p20, p21, p22, p23, p25, p26, p27, p28, p30, p24, p32⟩ hb hd K hK
          simp only [Act.put, List.setIfInBounds_toArray, List.set_cons_zero, List.set_cons_succ]
          obtain rfl := p26 (hd 6 (by decide))
          rw [if_pos (by rfl)]
          go_simp
          exact hK _ _ ⟨x19, x20, x21, x22, x23, x25, .pointer (some ⟨g, 0, none⟩), .pointer (some ⟨g, 1, none⟩), x28, x29, x30, x24, x31, x32, by simp only [Act.put, List.setIfInBounds_toArray, List.set_cons_zero, List.set_cons_succ], KB, HB, fun h => M1 (by simpa [upb] using h), fun h h2 => M2 (by simpa [upb] using h) (by simpa [upb] using h2), fun h => M3 (by simpa [upb] using h), fun h => R1 (by simpa [upb] using h), fun h => R2 (by simpa [upb] using h), fun h h2 => S1 (by simpa [upb] using h) (by simpa [upb] using h2), fun h => lz_q14 (Q14 (by simpa [upb] using h)), fun h => p19 (by simpa [upb] using h), fun h => p20 (by simpa [upb] using h), fun h => p21 (by simpa [upb] using h), fun h => p22 (by simpa [upb] using h), fun h => p23 (by simpa [upb] using h), fun h => p25 (by simpa [upb] using h), fun _ => rfl, fun _ => rfl, fun h => p28 (by simpa [upb] using h), fun h => p30 (by simpa [upb] using h), fun h => p24 (by simpa [upb] using h), fun h => p32 (by simpa [upb] using h)⟩
        case op8 =>
          rintro bb _ w' ⟨x19, x20, x21, x22, x23, x25, x26, x27, x28, x29, x30, x24, x31, x32, rfl, KB, HB, M1, M2, M3, R1, R2, S1, Q14, p19, p20, p21, p22, p23, p25, p26, p27, p28, p30, p24, p32⟩ hb hd K hK
          simp only [Act.put, List.setIfInBounds_toArray, List.set_cons_zero, List.set_cons_succ]
          obtain rfl := p27 (hd 7 (by decide))
          rw [if_pos (by rfl)]
          have hG : lz_Blk w' g A b_.length c at_ gm vo plain := KB.blk HG.out hgne hgrow
          have hc : w'.cell? ⟨g, 1, none⟩ = _ := blk_cell hG 1
          simp at hc
          go_simp
          exact hK _ _ ⟨x19, x20, x21, x22, x23, x25, x26, .pointer (some ⟨g, 1, none⟩), .int .i64 at_, x29, x30, x24, x31, x32, by simp only [Act.put, List.setIfInBounds_toArray, List.set_cons_zero, List.set_cons_succ], KB, HB, fun h => M1 (by simpa [upb] using h), fun h h2 => M2 (by simpa [upb] using h) (by simpa [upb] using h2), fun h => M3 (by simpa [upb] using h), fun h => R1 (by simpa [upb] using h), fun h => R2 (by simpa [upb] using h), fun h h2 => S1 (by simpa [upb] using h) (by simpa [upb] using h2), fun h => lz_q14 (Q14 (by simpa [upb] using h)), fun h => p19 (by simpa [upb] using h), fun h => p20 (by simpa [upb] using h), fun h => p21 (by simpa [upb] using h), fun h => p22 (by simpa [upb] using h), fun h => p23 (by simpa [upb] using h), fun h => p25 (by simpa [upb] using h), fun h => p26 (by simpa [upb] using h), fun _ => rfl, fun _ => rfl, fun h => p30 (by simpa [upb] using h), fun h => p24 (by simpa [upb] using h), fun h => p32 (by simpa [upb] using h)⟩
        case op9 =>
          rintro bb _ w' ⟨x19, x20, x21, x22, x23, x25, x26, x27, x28, x29, x30, x24, x31, x32, rfl, KB, HB, M1, M2, M3, R1, R2, S1, Q14, p19, p20, p21, p22, p23, p25, p26, p27, p28, p30, p24, p32⟩ hb hd K hK
          simp only [Act.put, List.setIfInBounds_toArray, List.set_cons_zero, List.set_cons_succ]
          obtain rfl := p28 (hd 8 (by decide))
          rw [if_pos (by rfl)]
          go_simp
          exact hK _ _ ⟨x19, x20, x21, x22, x23, x25, x26, x27, .int .i64 at_, .slice (some ⟨w'.heap.size, 0, none⟩) 1 1, x30, x24, x31, x32, by simp only [Act.put, List.setIfInBounds_toArray, List.set_cons_zero, List.set_cons_succ], KB.trans (KeepBut.of_below (below_alloc (Below.refl _ _) _) gm _) (.inl rfl), below_alloc HB _, fun h => (Below.heap_alloc _ _ _ (Nat.lt_of_lt_of_le hgml KB.1)).trans (M1 (by simpa [upb] using h)), fun h h2 => (Below.heap_alloc _ _ _ (Nat.lt_of_lt_of_le hgml KB.1)).trans (M2 (by simpa [upb] using h) (by simpa [upb] using h2)), fun h => absurd (Q14 (by simpa [upb] using h)).2.1 (by rw [hb]; decide), fun h => Kd.R_alloc (R1 (by simpa [upb] using h)) _, fun h => ⟨Kd.R_alloc (R2 (by simpa [upb] using h)).1 _, (R2 (by simpa [upb] using h)).2⟩, fun _ _ => ⟨_, rfl, KB.1, heap_alloc_new _ _⟩, fun h => lz_q14 (Q14 (by simpa [upb] using h)), fun h => p19 (by simpa [upb] using h), fun h => p20 (by simpa [upb] using h), fun h => p21 (by simpa [upb] using h), fun h => p22 (by simpa [upb] using h), fun h => p23 (by simpa [upb] using h), fun h => p25 (by simpa [upb] using h), fun h => p26 (by simpa [upb] using h), fun h => p27 (by simpa [upb] using h), fun _ => rfl, fun h => p30 (by simpa [upb] using h), fun h => p24 (by simpa [upb] using h), fun h => p32 (by simpa [upb] using h)⟩
        case op10 =>
          rintro bb _ w' ⟨x19, x20, x21, x22, x23, x25, x26, x27, x28, x29, x30, x24, x31, x32, rfl, KB, HB, M1, M2, M3, R1, R2, S1, Q14, p19, p20, p21, p22, p23, p25, p26, p27, p28, p30, p24, p32⟩ hb hd K hK
          simp only [Act.put, List.setIfInBounds_toArray, List.set_cons_zero, List.set_cons_succ]
          obtain rfl := p22 (hd 3 (by decide))
          obtain rfl := p23 (hd 4 (by decide))
          rw [if_pos (by rfl)]
          have hrun := hent w' (M1 hb)
          go_simp
          exact hK _ _ ⟨x19, x20, x21, .map (some gm), .agg #[.int .u8 x, .int .u8 y, .int .u8 z], x25, x26, x27, x28, x29, .tuple #[(lz_get L (lz_key b_ at_)), (.int .i64 st)], x24, x31, x32, by simp only [Act.put, List.setIfInBounds_toArray, List.set_cons_zero, List.set_cons_succ], lz_keep_setBlock _ KB, lz_below_setBlock _ HB hgmb, fun h => absurd h (by simp [upb]), fun _ _ => ChangeMaps.heap_setBlock_same (M1 hb) _, fun h => absurd (Q14 (by simpa [upb] using h)).1 (by rw [hb]; decide), fun h => lz_R_map _ (R1 (by simpa [upb] using h)) (M1 hb), fun h => ⟨lz_R_map _ (R2 (by simpa [upb] using h)).1 (M1 hb), (R2 (by simpa [upb] using h)).2⟩, fun h h2 => (by obtain ⟨gN, e, hl, hh⟩ := S1 (by simpa [upb] using h) (by simpa [upb] using h2); exact ⟨gN, e, hl, (lz_set_other _ (by omega)).trans hh⟩), fun h => lz_q14 (Q14 (by simpa [upb] using h)), fun h => p19 (by simpa [upb] using h), fun h => p20 (by simpa [upb] using h), fun h => p21 (by simpa [upb] using h), fun _ => rfl, fun _ => rfl, fun h => p25 (by simpa [upb] using h), fun h => p26 (by simpa [upb] using h), fun h => p27 (by simpa [upb] using h), fun h => p28 (by simpa [upb] using h), fun _ => rfl, fun h => p24 (by simpa [upb] using h), fun h => p32 (by simpa [upb] using h)⟩
        case op11 =>
          rintro bb _ w' ⟨x19, x20, x21, x22, x23, x25, x26, x27, x28, x29, x30, x24, x31, x32, rfl, KB, HB, M1, M2, M3, R1, R2, S1, Q14, p19, p20, p21, p22, p23, p25, p26, p27, p28, p30, p24, p32⟩ hb hd K hK
          simp only [Act.put, List.setIfInBounds_toArray, List.set_cons_zero, List.set_cons_succ]
          obtain rfl := p30 (hd 10 (by decide))
          rw [if_pos (by rfl)]
          go_simp
          exact hK _ _ ⟨x19, x20, x21, x22, x23, x25, x26, x27, x28, x29, .tuple #[(lz_get L (lz_key b_ at_)), (.int .i64 st)], (lz_get L (lz_key b_ at_)), x31, x32, by simp only [Act.put, List.setIfInBounds_toArray, List.set_cons_zero, List.set_cons_succ], KB, HB, fun h => M1 (by simpa [upb] using h), fun h h2 => M2 (by simpa [upb] using h) (by simpa [upb] using h2), fun h => M3 (by simpa [upb] using h), fun h => R1 (by simpa [upb] using h), fun h => R2 (by simpa [upb] using h), fun h h2 => S1 (by simpa [upb] using h) (by simpa [upb] using h2), fun h => lz_q14 (Q14 (by simpa [upb] using h)), fun h => p19 (by simpa [upb] using h), fun h => p20 (by simpa [upb] using h), fun h => p21 (by simpa [upb] using h), fun h => p22 (by simpa [upb] using h), fun h => p23 (by simpa [upb] using h), fun h => p25 (by simpa [upb] using h), fun h => p26 (by simpa [upb] using h), fun h => p27 (by simpa [upb] using h), fun h => p28 (by simpa [upb] using h), fun _ => rfl, fun _ => rfl, fun h => p32 (by simpa [upb] using h)⟩
        case op12 =>
          rintro bb _ w' ⟨x19, x20, x21, x22, x23, x25, x26, x27, x28, x29, x30, x24, x31, x32, rfl, KB, HB, M1, M2, M3, R1, R2, S1, Q14, p19, p20, p21, p22, p23, p25, p26, p27, p28, p30, p24, p32⟩ hb hd K hK
          simp only [Act.put, List.setIfInBounds_toArray, List.set_cons_zero, List.set_cons_succ]
          obtain rfl := p24 (hd 11 (by decide))
          rw [if_pos (by rfl)]
          obtain ⟨gN, e29, hgN, hNN⟩ := S1 (hd 9 (by decide)) hb
          subst e29
          obtain ⟨i0, hi, hz0, hz1, hz2⟩ := info_parts info3
          have hown := Kd.own_of_R (R1 hb)
          refine wp_append_lies _ (.tmp 24) (.tmp 29) 89 rfl w0.heap.size 3 i0 (.int .i64 0) 1 8 Tryd.underlying89 hi hz0 hz1 hz2 rfl (by decide) (lz_get L (lz_key b_ at_)) l.length _ (by rfl) hown ⟨gN, 0, none⟩ 1 1 [.int .i64 at_] (by rfl) rfl (fun j u hj => by rw [add_plain]; exact lz_one_cell hNN hj) (by simp [Value.oneCell']) (by decide) (by unfold maxLen; omega) (by omega) HB.size w'.heap.size rfl ?_
          intro g1 cap w2 hown2 hgr hat hlt2
          have hgmrow : some gm ≠ (lz_get L (lz_key b_ at_)).ownBlock := fun e => lz_gm_row HS.out.map HR.out e.symm
          have hR2 : Kd.R (Kd.int .i64) 3 w2 w0.heap.size (fun _ => True) (.slice (some ⟨g1, 0, none⟩) (l.length + 1) cap) (l ++ [(at_ : Int)]) := lz_R_ints (by simp [encs]) hown2
          have hat2 : (Value.slice (some ⟨g1, 0, none⟩) (l.length + 1) cap).ownBlock = (lz_get L (lz_key b_ at_)).ownBlock ∨ ∃ q, (Value.slice (some ⟨g1, 0, none⟩) (l.length + 1) cap).ownBlock = some q ∧ W.heap.size ≤ q := by rcases hat with e | e; exact .inl e.symm; exact .inr ⟨g1, rfl, e ▸ KB.1⟩
          have hrow : ∀ k, (lz_get L (lz_key b_ at_)).ownBlock = some k → w0.heap.size ≤ k := Kd.R_base HR.out
          exact hK _ _ ⟨x19, x20, x21, x22, x23, x25, x26, x27, x28, .slice (some ⟨gN, 0, none⟩) 1 1, x30, (lz_get L (lz_key b_ at_)), .slice (some ⟨g1, 0, none⟩) (l.length + 1) cap, x32, by simp only [Act.put, List.setIfInBounds_toArray, List.set_cons_zero, List.set_cons_succ], KB.trans (KeepBut.of_grown hgr gm) (.inl rfl), pw_below_grown HB _ HB.size hgr hrow, fun h => absurd (hd 10 (by decide)) (by simpa [upb] using h), fun h h2 => (hgr.block gm (Nat.lt_of_lt_of_le hgml KB.1) hgmrow).trans (M2 (by simpa [upb] using h) (by simpa [upb] using h2)), fun h => absurd (Q14 (by simpa [upb] using h)).2.2 (by rw [hb]; decide), fun h => absurd h (by simp [upb]), fun _ => ⟨hR2, hat2⟩, fun _ h => absurd h (by simp [upb]), fun h => lz_q14 (Q14 (by simpa [upb] using h)), fun h => p19 (by simpa [upb] using h), fun h => p20 (by simpa [upb] using h), fun h => p21 (by simpa [upb] using h), fun h => p22 (by simpa [upb] using h), fun h => p23 (by simpa [upb] using h), fun h => p25 (by simpa [upb] using h), fun h => p26 (by simpa [upb] using h), fun h => p27 (by simpa [upb] using h), fun h => p28 (by simpa [upb] using h), fun h => p30 (by simpa [upb] using h), fun _ => rfl, fun h => p32 (by simpa [upb] using h)⟩
        case op13 =>
          rintro bb _ w' ⟨x19, x20, x21, x22, x23, x25, x26, x27, x28, x29, x30, x24, x31, x32, rfl, KB, HB, M1, M2, M3, R1, R2, S1, Q14, p19, p20, p21, p22, p23, p25, p26, p27, p28, p30, p24, p32⟩ hb hd K hK
          simp only [Act.put, List.setIfInBounds_toArray, List.set_cons_zero, List.set_cons_succ]
          obtain rfl := p30 (hd 10 (by decide))
          rw [if_pos (by rfl)]
          go_simp
          exact hK _ _ ⟨x19, x20, x21, x22, x23, x25, x26, x27, x28, x29, .tuple #[(lz_get L (lz_key b_ at_)), (.int .i64 st)], x24, x31, (.int .i64 st), by simp only [Act.put, List.setIfInBounds_toArray, List.set_cons_zero, List.set_cons_succ], KB, HB, fun h => M1 (by simpa [upb] using h), fun h h2 => M2 (by simpa [upb] using h) (by simpa [upb] using h2), fun h => M3 (by simpa [upb] using h), fun h => R1 (by simpa [upb] using h), fun h => R2 (by simpa [upb] using h), fun h h2 => S1 (by simpa [upb] using h) (by simpa [upb] using h2), fun h => lz_q14 (Q14 (by simpa [upb] using h)), fun h => p19 (by simpa [upb] using h), fun h => p20 (by simpa [upb] using h), fun h => p21 (by simpa [upb] using h), fun h => p22 (by simpa [upb] using h), fun h => p23 (by simpa [upb] using h), fun h => p25 (by simpa [upb] using h), fun h => p26 (by simpa [upb] using h), fun h => p27 (by simpa [upb] using h), fun h => p28 (by simpa [upb] using h), fun _ => rfl, fun h => p24 (by simpa [upb] using h), fun _ => rfl⟩
        case op14 =>
          rintro bb _ w' ⟨x19, x20, x21, x22, x23, x25, x26, x27, x28, x29, x30, x24, x31, x32, rfl, KB, HB, M1, M2, M3, R1, R2, S1, Q14, p19, p20, p21, p22, p23, p25, p26, p27, p28, p30, p24, p32⟩ hb hd K hK
          simp only [Act.put, List.setIfInBounds_toArray, List.set_cons_zero, List.set_cons_succ]
          obtain rfl := p22 (hd 3 (by decide))
          obtain rfl := p32 (hd 13 (by decide))
          rw [if_pos (by rfl)]
          have hm2 := M2 (hd 10 (by decide)) hb
          have hd9 := hd 9 (by decide)
          obtain ⟨es', clock', hrun, hmap2⟩ := hsto w' x31 hm2
          go_simp
          exact hK _ _ ⟨x19, x20, x21, .map (some gm), x23, x25, x26, x27, x28, x29, x30, x24, x31, (.int .i64 st), by simp only [Act.put, List.setIfInBounds_toArray, List.set_cons_zero, List.set_cons_succ], lz_keep_setBlock _ KB, lz_below_setBlock _ HB hgmb, fun h => absurd (hd 10 (by decide)) (by simpa [upb] using h), fun _ h => absurd h (by simp [upb]), fun _ => hmap2, fun h => lz_R_map _ (R1 (by simpa [upb] using h)) hm2, fun h => ⟨lz_R_map _ (R2 (by simpa [upb] using h)).1 hm2, (R2 (by simpa [upb] using h)).2⟩, fun h h2 => (by obtain ⟨gN, e, hl, hh⟩ := S1 (by simpa [upb] using h) (by simpa [upb] using h2); exact ⟨gN, e, hl, (lz_set_other _ (by omega)).trans hh⟩), fun _ => lz_q14 ⟨hd 10 (by decide), hd9, hd 12 (by decide)⟩, fun h => p19 (by simpa [upb] using h), fun h => p20 (by simpa [upb] using h), fun h => p21 (by simpa [upb] using h), fun _ => rfl, fun h => p23 (by simpa [upb] using h), fun h => p25 (by simpa [upb] using h), fun h => p26 (by simpa [upb] using h), fun h => p27 (by simpa [upb] using h), fun h => p28 (by simpa [upb] using h), fun h => p30 (by simpa [upb] using h), fun h => p24 (by simpa [upb] using h), fun _ => rfl⟩
        case done =>
          rintro bb _ w' hb ⟨x19, x20, x21, x22, x23, x25, x26, x27, x28, x29, x30, x24, x31, x32, rfl, KB, HB, M1, M2, M3, R1, R2, S1, Q14, p19, p20, p21, p22, p23, p25, p26, p27, p28, p30, p24, p32⟩
          obtain rfl := p19 (hb 0 (by decide))
          obtain rfl := p20 (hb 1 (by decide))
          obtain rfl := p21 (hb 2 (by decide))
          obtain rfl := p22 (hb 3 (by decide))
          obtain rfl := p23 (hb 4 (by decide))
          obtain rfl := p25 (hb 5 (by decide))
          obtain rfl := p26 (hb 6 (by decide))
          obtain rfl := p27 (hb 7 (by decide))
          obtain rfl := p28 (hb 8 (by decide))
          obtain rfl := p30 (hb 10 (by decide))
          obtain rfl := p24 (hb 11 (by decide))
          obtain rfl := p32 (hb 13 (by decide))
          simp only [Act.put, List.setIfInBounds_toArray, List.set_cons_zero, List.set_cons_succ]
          have k3 := M3 (hb 14 (by decide))
          have k4 := R2 (hb 12 (by decide))
          have hseen := HS.out.step h3 k3 (by rw [HL.out]; exact k4.1) KB k4.2
          have hblk : lz_Blk w' g A b_.length c at_ gm vo plain := KB.blk HG.out hgne hgrow
          have hout := lz_R_keep HS.out.map HR.out HST2.out.out KB
          have hgo := lz_St.go (at_ + 1) hblk HB hseen hout HST2.out.gb hgmb
          have hc1 : w'.cell? ⟨g, 1, none⟩ = some (.int .i64 at_) := blk_cell hblk 1
          have hc0 : w'.frozen? ⟨g, 1, none⟩ = false := blk_frozen hblk 1
          have hgo2 : lz_St w0 (w'.setCell ⟨g, 1, none⟩ (.int .i64 ((at_ : Int) + 1))) g gm A c b_ (at0 + (k + 1)) plain vo out (lz_put L (lz_key b_ at_) x31) := by rw [show at0 + (k + 1) = at_ + 1 by have := HAT.out; omega]; exact hgo
          have HGO := Lib.hid hgo2
          clear hgo hgo2 hblk hout hseen k3 k4 KB HB M1 M2 M3 R1 R2 S1 Q14 hent hsto hes hb p30 p32
          go_wp2_with fail
          exact ⟨⟨k + 1, _, by go_num, by omega, HGO⟩, by simp [intOf] <;> omega⟩

      · go_wp2_with fail
        refine (lz_three_no _ g gm A c b_ at_ at_ plain vo HST.out.blk h3 (by omega) hl).mono ?_; rintro e w1 ⟨rfl, hB1⟩
        have hB2 : Below wr.heap.size wr (w1.alloc (.cells #[.int .u8 0, .int .u8 0, .int .u8 0] 86)) := below_alloc hB1 _
        have hST2 := HST.out.next hB2
        have hc1 : (w1.alloc (.cells #[.int .u8 0, .int .u8 0, .int .u8 0] 86)).cell? ⟨g, 1, none⟩ = some (.int .i64 at_) := blk_cell hST2.blk 1
        have hc0 : (w1.alloc (.cells #[.int .u8 0, .int .u8 0, .int .u8 0] 86)).frozen? ⟨g, 1, none⟩ = false := blk_frozen hST2.blk 1
        have hgo := lz_St.go (at_ + 1) hST2.blk hST2.hb (lz_Seen.pass hST2.seen h3) hST2.out hST2.gb hST2.gmb
        have hgo2 : lz_St w0 ((w1.alloc (.cells #[.int .u8 0, .int .u8 0, .int .u8 0] 86)).setCell ⟨g, 1, none⟩ (.int .i64 ((at_ : Int) + 1))) g gm A c b_ (at0 + (k + 1)) plain vo out L := by rw [show at0 + (k + 1) = at_ + 1 by have := HAT.out; omega]; exact hgo
        have HGO := Lib.hid hgo2
        clear hB1 hB2 hST2 hgo hgo2
        go_wp2_with fail
        exact ⟨⟨k + 1, _, by go_num, by omega, HGO⟩, by simp [intOf] <;> omega⟩
    · obtain rfl : k = n := by omega
      go_wp2_with fail
      go_end0
      exact ⟨rfl, L, HST.out⟩
end Go.Proofs.YtigcgdhihaibbaaDoor.PLz
