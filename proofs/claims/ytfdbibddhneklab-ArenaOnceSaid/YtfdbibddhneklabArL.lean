import Derived.Test.YtfdbibddhneklabArP
namespace Go.Proofs.Ytfdbibddhneklab.Arena
open Go.RowKit Go.Proofs.YtfdbibddhneklabW.PrintWords
set_option linter.unusedVariables false
set_option linter.unusedSimpArgs false
set_option maxRecDepth 100000
set_option maxHeartbeats 2000000
theorem IsMap.next {W W' : World} {g : Nat} {m : List (Int × Value)} (h : IsMap W g m) (hb : Below W.heap.size W W') : IsMap W' g m := by
  obtain ⟨es, c, h1, h2⟩ := h
  exact ⟨es, c, (hb.block g (Array.getElem?_eq_some_iff.1 h1).1).trans h1, h2⟩
theorem IsMap.row {W : World} {g n : Nat} {m : List (Int × Value)} (h : IsMap W g m) (hne : g ≠ n) (c : Array Value) : IsMap (W.setRow n c) g m := by
  obtain ⟨es, cl, h1, h2⟩ := h
  exact ⟨es, cl, (setRow_other W n g c hne).trans h1, h2⟩
theorem IsMap.but {W W' : World} {g n : Nat} {m : List (Int × Value)} (h : IsMap W g m) (hne : g ≠ n) (b : But W W' n) : IsMap W' g m := by
  obtain ⟨es, cl, h1, h2⟩ := h
  exact ⟨es, cl, (b.block g hne).trans h1, h2⟩
theorem IsMap.lt {W : World} {g : Nat} {m : List (Int × Value)} (h : IsMap W g m) : g < W.heap.size := by
  obtain ⟨es, cl, h1, h2⟩ := h
  exact (Array.getElem?_eq_some_iff.1 h1).1
theorem Lies.but {W W' : World} {g n : Nat} {L : List Sl} (h : Lies W g L) (hne : g ≠ n) (b : But W W' n) : Lies W' g L := (b.block g hne).trans h
theorem below_but {B : Nat} {w W W' : World} {n : Nat} (h : Below B w W) (hB : B ≤ n) (b : But W W' n) : Below B w W' :=
  h.trans ⟨b.os, b.tape, b.output, by rw [b.size]; exact Nat.le_refl _, fun k hk => b.block k (by omega)⟩
theorem map_new (W : World) (n : Nat) (h : n = W.heap.size) : IsMap (W.alloc (.map #[] 0)) n [] := ⟨#[], 0, heap_at W _ n h, rfl⟩
/-- the acts that came in -/
structure Acts (W : World) (A : Option Addr) (len : Nat) (D : Nat → Int) (Id : Nat → Nat) (X : Nat → Int) : Prop where
  d : ∀ i a, i < len → A = some a → W.cell? (a.add (i * 3)) = some (.int .u8 (D i))
  i : ∀ i a, i < len → A = some a → W.cell? (a.add (i * 3 + 1)) = some (.int .u16 (Id i))
  x : ∀ i a, i < len → A = some a → W.cell? (a.add (i * 3 + 2)) = some (.int .i64 (X i))
  s : 0 < len → ∃ a, A = some a
  r : ∀ i, i < len → Id i < 65536
theorem cell_next {W W' : World} {p : Addr} {v : Value} (hb : Below W.heap.size W W') (h : W.cell? p = some v) : W'.cell? p = some v := by rw [hb.cell (block_lt_of_cell h)]; exact h
theorem Acts.next {W W' : World} {A : Option Addr} {len : Nat} {D : Nat → Int} {Id : Nat → Nat} {X : Nat → Int} (h : Acts W A len D Id X) (hb : Below W.heap.size W W') : Acts W' A len D Id X :=
  ⟨fun i a hi ha => cell_next hb (h.d i a hi ha), fun i a hi ha => cell_next hb (h.i i a hi ha), fun i a hi ha => cell_next hb (h.x i a hi ha), h.s, h.r⟩

theorem once_walk (A : Option Addr) (len cap : Nat) (D : Nat → Int) (Id : Nat → Nat) (X : Nat → Int) (w : World) (hA : Acts w A len D Id X) (hlen : len ≤ 300) :
    Calls Try.prog 3 #[.slice A len cap] w fun e w' => e = .returned (.bool true) ∧ Below w.heap.size w w' := by
  have HA := Lib.hid hA
  have hl : ¬ (300 : Int) < len := by omega
  have hz := zero29' w
  have hm0 := @run_makeMap Try.prog 30 (w.alloc (.cells (acs Z0) 29))
  have hm1 := @run_makeMap Try.prog 31 ((w.alloc (.cells (acs Z0) 29)).alloc (.map #[] 0))
  have HB := Lib.hid ((((Below.refl w.heap.size w).alloc (Nat.le_refl _) (.cells (acs Z0) 29)).alloc (by simp) (.map #[] 0)).alloc (by simp; omega) (.map #[] 0))
  have P0 := Lib.hid (lies_past _ (.map #[] 0) Z0 w.heap.size (lies_past _ (.map #[] 0) Z0 w.heap.size (lies_new w Z0 w.heap.size rfl)))
  have M0 := Lib.hid ((map_new (w.alloc (.cells (acs Z0) 29)) (w.heap.size + 1) (by simp)).next ((Below.refl _ _).alloc (Nat.le_refl _) (.map #[] 0)))
  have M1 := Lib.hid (map_new ((w.alloc (.cells (acs Z0) 29)).alloc (.map #[] 0)) (w.heap.size + 1 + 1) (by simp))
  have HK := Lib.hid (fun W => wakes_any W)
  clear hA
  go_enter Try.func3, Try.ntmps3
  go_wp2_with fail
  go_loopw [6] (fun v wr => ∃ (k : Nat) (L : List Sl) (G I : List (Int × Value)), v = .int .i64 k ∧ k ≤ len ∧ Inv k L G I ∧ Lies wr w.heap.size L ∧ IsMap wr (w.heap.size + 1) G ∧ IsMap wr (w.heap.size + 1 + 1) I ∧ Below w.heap.size w wr) (fun v _ => len - (intOf v).toNat)
  case atStart => exact ⟨0, Z0, [], [], rfl, by omega, Inv.init, P0.out, M0.out, M1.out, HB.out⟩
  case round =>
    obtain ⟨k, L, G, I, rfl, hk, hI, Q0, Q1, Q2, QB⟩ := hrel
    by_cases h : k < len
    · have h1 : (k : Int) < len := by omega
      obtain ⟨a, rfl⟩ := HA.out.s (by omega)
      have HR := Lib.hid (HA.out.next (QB))
      have ad := HR.out.d k a h rfl
      have ai := HR.out.i k a h rfl
      have ax := HR.out.x k a h rfl
      have ai2 := ai
      rw [add_field a (k * 3) 1 (by omega)] at ai2
      have ax2 := ax
      rw [add_field a (k * 3) 2 (by omega)] at ax2
      have hid := Lib.hid (HA.out.r k h)
      by_cases hd : D k = 0
      · rw [hd] at ad
        have HC := Lib.hid (fun W => drop_any L (Id k) hI.len hid.out W)
        have I0 := Lib.hid (info29 L hI.len)
        have INV := Lib.hid (hI.drop (by omega) (Id k) hid.out)
        have I1 := Lib.hid (info29 (dropL L (Id k)) INV.out.len)
        have J1 := Lib.hid (show (acs L).size = (acs (dropL L (Id k))).size by rw [acs_size, acs_size, hI.len, INV.out.len])
        have V0 := Lib.hid (show Lies wr.drew w.heap.size L from Q0)
        have V1 := Lib.hid (show IsMap wr.drew (w.heap.size + 1) G from Q1)
        have V2 := Lib.hid (show IsMap wr.drew (w.heap.size + 1 + 1) I from Q2)
        have VB := Lib.hid (QB.drew)
        have HI := Lib.hid hI
        clear Q0 Q1 Q2 QB hI HR
        go_wp2_with fail
        refine still_tail 6 (by kernel_rfl) (by kernel_rfl) ?_
        simp only [List.take_succ_cons, List.take_zero, List.drop_succ_cons, List.drop_zero]
        refine still_load_row rfl 29 (.tmp 3) rfl _ rfl _ _ _ _ V0.out Try.underlying29 rfl I0.out ?_
        repeat still_step
        refine wpStill_nil ?_
        generalize wr.drew = wd at *
        change wpList _ _ _ _ _ wd
        clear ad ai ax ai2 ax2
        go_wp2_with fail
        refine (HC.out _).mono ?_; rintro e w2 ⟨rfl, b2⟩
        have V0 := Lib.hid (V0.out.next b2)
        have V1 := Lib.hid ((V1.out.next b2).row (by omega : w.heap.size + 1 ≠ w.heap.size) (acs (dropL L (Id k))))
        have V2 := Lib.hid ((V2.out.next b2).row (by omega : w.heap.size + 1 + 1 ≠ w.heap.size) (acs (dropL L (Id k))))
        have VB := Lib.hid (below_setRow (bnext VB.out (Nat.le_refl _) b2) (Nat.le_refl _) (acs (dropL L (Id k))))
        have V0' := Lib.hid (V0.out.same (dropL L (Id k)))
        have ai := (HA.out.next VB.out).i k a h rfl
        rw [add_field a (k * 3) 1 (by omega)] at ai
        obtain ⟨w3, d1, V2, db⟩ := map_del 0 V2.out (Id k)
        have V1 := Lib.hid (V1.out.but (by omega) db)
        have V0' := Lib.hid (V0'.out.but (by omega) db)
        have VB := Lib.hid (below_but VB.out (by omega) db)
        have V2 := Lib.hid V2
        clear b2 db
        have HS := Lib.hid (fun W => ids_any (dropL L (Id k)) INV.out.len W)
        go_wp2_with (first | (refine wpList_store_row rfl 29 (.tmp 3) (.tmp 40) rfl _ _ rfl rfl _ _ V0.out I1.out J1.out (acs_one _) ?_) | (refine wpList_load_row rfl 29 (.tmp 3) rfl _ rfl _ _ _ _ V0'.out Try.underlying29 rfl I1.out ?_))
        clear d1 ai V0 I1 J1
        refine (HS.out _).mono ?_; rintro e w6 ⟨v6, rfl, R6, b6⟩
        obtain ⟨B6, c6, rfl, q6, C6⟩ := rd_R R6
        have U0 := Lib.hid (V0'.out.next b6)
        have U1 := Lib.hid (V1.out.next b6)
        have U2 := Lib.hid (V2.out.next b6)
        have UB := Lib.hid (bnext VB.out (Nat.le_refl _) b6)
        have hcnt : (mDel I (Id k : Int)).length = (idsL (dropL L (Id k)) 128).length := by rw [ids_cnt]; exact INV.out.cnt
        have hY := Lib.hid (fun y hy => INV.out.each (by omega) y hy)
        have hle := idsL_len (dropL L (Id k)) 128
        have hln := map_len 3 U2.out
        rw [hcnt] at hln
        obtain ⟨Y, hYe⟩ : ∃ Y, Y = idsL (dropL L (Id k)) 128 := ⟨_, rfl⟩
        rw [← hYe] at C6 hY hln hle q6 ⊢
        have C6 := Lib.hid C6
        clear hcnt hYe b6 R6 V0' V1 V2 VB
        go_wp2_with fail
        obtain ⟨wa, hwa⟩ : ∃ x, x = w6 := ⟨_, rfl⟩
        go_loopw [11] (fun v wr => ∃ j : Nat, v = .int .i64 j ∧ j ≤ Y.length ∧ Below w6.heap.size w6 wr) (fun v _ => Y.length - (intOf v).toNat)
        case atStart => exact ⟨0, rfl, by omega, Below.refl _ _⟩
        case round =>
          obtain ⟨j, rfl, hj, jB⟩ := hrel
          have T0 := Lib.hid (U0.out.next jB)
          have T1 := Lib.hid (U1.out.next jB)
          have T2 := Lib.hid (U2.out.next jB)
          have TB := Lib.hid (bnext UB.out (Nat.le_refl _) jB)
          by_cases hjl : j < Y.length
          · obtain ⟨kk, hyk, hlt, hhas, hget⟩ := hY.out Y[j] (List.getElem_mem hjl)
            have hcell : ∃ ad, B6 = some ad ∧ wr.cell? (ad.add j) = some (.int .u16 (kk : Int)) := by
              obtain ⟨_, _, hrd⟩ := Kd.C_below C6.out jB
              obtain ⟨ad, had, hc⟩ := hrd (by omega)
              refine ⟨ad, had, ?_⟩
              obtain ⟨cs, hk1, hk2, hk3⟩ := hc j Y[j] (List.getElem?_eq_getElem hjl)
              have hcs : cs = [.int .u16 Y[j]] := hk2
              have := hk3 0 _ (by rw [hcs]; rfl)
              rw [hyk, show j * (Kd.int .u16).sz + 0 = j by show j * 1 + 0 = j; omega] at this
              exact this
            obtain ⟨ad6, rfl, hcell⟩ := hcell
            have hj1 : (j : Int) < Y.length := by omega
            have hgt := Lib.hid (fun W => get_any (dropL L (Id k)) kk INV.out.len hlt W)
            rw [hhas, if_pos rfl] at hgt
            have T0d := Lib.hid (show Lies wr.drew w.heap.size (dropL L (Id k)) from T0.out)
            have T1d := Lib.hid (show IsMap wr.drew (w.heap.size + 1) (G) from T1.out)
            have T2d := Lib.hid (show IsMap wr.drew (w.heap.size + 1 + 1) (mDel I (Id k : Int)) from T2.out)
            have TBd := Lib.hid (jB.drew)
            have I2 := Lib.hid (info29 (dropL L (Id k)) INV.out.len)
            clear T0 T1 T2 TB jB
            go_wp2_with fail
            refine wp_region_inv (fun a0 w0 b a' w' => ∃ x98 x99 x100 x101 x102 x103 x97 x104 x105 x12 x13 : Value, a' = (((((((((((a0.put (some 98) x98).put (some 99) x99).put (some 100) x100).put (some 101) x101).put (some 102) x102).put (some 103) x103).put (some 97) x97).put (some 104) x104).put (some 105) x105).put (some 12) x12).put (some 13) x13) ∧ Lies w' w.heap.size (dropL L (Id k)) ∧ IsMap w' (w.heap.size + 1) (G) ∧ IsMap w' (w.heap.size + 1 + 1) (mDel I (Id k : Int)) ∧ Below w6.heap.size w6 w' ∧ w'.cell? (ad6.add j) = some (.int .u16 (kk : Int)) ∧ (b 0 = true → x98 = .agg (acs (dropL L (Id k)))) ∧ (b 1 = true → x99 = .slice (some ad6) Y.length c6) ∧ (b 2 = true → x100 = .int .i64 j) ∧ (b 3 = true → x101 = .pointer (some (ad6.add j))) ∧ (b 4 = true → x102 = .int .u16 kk) ∧ (b 5 = true → x103 = .tuple #[.int .i64 (sX (dropL L (Id k)) (kk % 128)), .bool true]) ∧ (b 6 = true → x97 = .tuple #[.int .i64 (sX (dropL L (Id k)) (kk % 128)), .bool true]) ∧ (b 7 = true → x104 = .int .i64 (sX (dropL L (Id k)) (kk % 128))) ∧ (b 8 = true → x105 = .bool true) ∧ (b 9 = true → x12 = .int .i64 (sX (dropL L (Id k)) (kk % 128))) ∧ (b 10 = true → x13 = .bool true)) (by kernel_rfl) (by kernel_rfl) ?start ⟨?op0, ?op1, ?op2, ?op3, ?op4, ?op5, ?op6, ?op7, ?op8, ?op9, ?op10, trivial⟩ ?done
            case start => exact ⟨_, _, _, _, _, _, _, _, _, _, _, by simp only [Act.put, List.setIfInBounds_toArray, List.set_cons_zero, List.set_cons_succ]; rfl, T0d.out, T1d.out, T2d.out, TBd.out, hcell, fun h => absurd h (by decide), fun h => absurd h (by decide), fun h => absurd h (by decide), fun h => absurd h (by decide), fun h => absurd h (by decide), fun h => absurd h (by decide), fun h => absurd h (by decide), fun h => absurd h (by decide), fun h => absurd h (by decide), fun h => absurd h (by decide), fun h => absurd h (by decide)⟩
            case op0 =>
              rintro bb _ w' ⟨x98, x99, x100, x101, x102, x103, x97, x104, x105, x12, x13, rfl, t0, m1, m2, tB, tc, p98, p99, p100, p101, p102, p103, p97, p104, p105, p12, p13⟩ hb hd K hK
              simp only [Act.put, List.setIfInBounds_toArray, List.set_cons_zero, List.set_cons_succ]
              rw [if_pos (by rfl)]
              refine wp_load_row 29 (.tmp 3) rfl _ rfl _ _ _ _ t0 Try.underlying29 rfl I2.out ?_
              try simp only [Act.put, List.setIfInBounds_toArray, List.set_cons_zero, List.set_cons_succ]
              exact hK _ _ ⟨.agg (acs (dropL L (Id k))), x99, x100, x101, x102, x103, x97, x104, x105, x12, x13, by simp only [Act.put, List.setIfInBounds_toArray, List.set_cons_zero, List.set_cons_succ], t0, m1, m2, tB, tc, fun _ => rfl, fun h => p99 (by simpa [upb] using h), fun h => p100 (by simpa [upb] using h), fun h => p101 (by simpa [upb] using h), fun h => p102 (by simpa [upb] using h), fun h => p103 (by simpa [upb] using h), fun h => p97 (by simpa [upb] using h), fun h => p104 (by simpa [upb] using h), fun h => p105 (by simpa [upb] using h), fun h => p12 (by simpa [upb] using h), fun h => p13 (by simpa [upb] using h)⟩
            case op1 =>
              rintro bb _ w' ⟨x98, x99, x100, x101, x102, x103, x97, x104, x105, x12, x13, rfl, t0, m1, m2, tB, tc, p98, p99, p100, p101, p102, p103, p97, p104, p105, p12, p13⟩ hb hd K hK
              simp only [Act.put, List.setIfInBounds_toArray, List.set_cons_zero, List.set_cons_succ]
              rw [if_pos (by rfl)]
              go_simp
              exact hK _ _ ⟨x98, .slice (some ad6) Y.length c6, x100, x101, x102, x103, x97, x104, x105, x12, x13, by simp only [Act.put, List.setIfInBounds_toArray, List.set_cons_zero, List.set_cons_succ], t0, m1, m2, tB, tc, fun h => p98 (by simpa [upb] using h), fun _ => rfl, fun h => p100 (by simpa [upb] using h), fun h => p101 (by simpa [upb] using h), fun h => p102 (by simpa [upb] using h), fun h => p103 (by simpa [upb] using h), fun h => p97 (by simpa [upb] using h), fun h => p104 (by simpa [upb] using h), fun h => p105 (by simpa [upb] using h), fun h => p12 (by simpa [upb] using h), fun h => p13 (by simpa [upb] using h)⟩
            case op2 =>
              rintro bb _ w' ⟨x98, x99, x100, x101, x102, x103, x97, x104, x105, x12, x13, rfl, t0, m1, m2, tB, tc, p98, p99, p100, p101, p102, p103, p97, p104, p105, p12, p13⟩ hb hd K hK
              simp only [Act.put, List.setIfInBounds_toArray, List.set_cons_zero, List.set_cons_succ]
              rw [if_pos (by rfl)]
              go_simp
              exact hK _ _ ⟨x98, x99, .int .i64 j, x101, x102, x103, x97, x104, x105, x12, x13, by simp only [Act.put, List.setIfInBounds_toArray, List.set_cons_zero, List.set_cons_succ], t0, m1, m2, tB, tc, fun h => p98 (by simpa [upb] using h), fun h => p99 (by simpa [upb] using h), fun _ => rfl, fun h => p101 (by simpa [upb] using h), fun h => p102 (by simpa [upb] using h), fun h => p103 (by simpa [upb] using h), fun h => p97 (by simpa [upb] using h), fun h => p104 (by simpa [upb] using h), fun h => p105 (by simpa [upb] using h), fun h => p12 (by simpa [upb] using h), fun h => p13 (by simpa [upb] using h)⟩
            case op3 =>
              rintro bb _ w' ⟨x98, x99, x100, x101, x102, x103, x97, x104, x105, x12, x13, rfl, t0, m1, m2, tB, tc, p98, p99, p100, p101, p102, p103, p97, p104, p105, p12, p13⟩ hb hd K hK
              simp only [Act.put, List.setIfInBounds_toArray, List.set_cons_zero, List.set_cons_succ]
              obtain rfl := p99 (hd 1 (by decide))
              obtain rfl := p100 (hd 2 (by decide))
              rw [if_pos (by rfl)]
              go_simp
              exact hK _ _ ⟨x98, .slice (some ad6) Y.length c6, .int .i64 j, .pointer (some (ad6.add j)), x102, x103, x97, x104, x105, x12, x13, by simp only [Act.put, List.setIfInBounds_toArray, List.set_cons_zero, List.set_cons_succ], t0, m1, m2, tB, tc, fun h => p98 (by simpa [upb] using h), fun _ => rfl, fun _ => rfl, fun _ => rfl, fun h => p102 (by simpa [upb] using h), fun h => p103 (by simpa [upb] using h), fun h => p97 (by simpa [upb] using h), fun h => p104 (by simpa [upb] using h), fun h => p105 (by simpa [upb] using h), fun h => p12 (by simpa [upb] using h), fun h => p13 (by simpa [upb] using h)⟩
            case op4 =>
              rintro bb _ w' ⟨x98, x99, x100, x101, x102, x103, x97, x104, x105, x12, x13, rfl, t0, m1, m2, tB, tc, p98, p99, p100, p101, p102, p103, p97, p104, p105, p12, p13⟩ hb hd K hK
              simp only [Act.put, List.setIfInBounds_toArray, List.set_cons_zero, List.set_cons_succ]
              obtain rfl := p101 (hd 3 (by decide))
              rw [if_pos (by rfl)]
              go_simp
              exact hK _ _ ⟨x98, x99, x100, .pointer (some (ad6.add j)), .int .u16 kk, x103, x97, x104, x105, x12, x13, by simp only [Act.put, List.setIfInBounds_toArray, List.set_cons_zero, List.set_cons_succ], t0, m1, m2, tB, tc, fun h => p98 (by simpa [upb] using h), fun h => p99 (by simpa [upb] using h), fun h => p100 (by simpa [upb] using h), fun _ => rfl, fun _ => rfl, fun h => p103 (by simpa [upb] using h), fun h => p97 (by simpa [upb] using h), fun h => p104 (by simpa [upb] using h), fun h => p105 (by simpa [upb] using h), fun h => p12 (by simpa [upb] using h), fun h => p13 (by simpa [upb] using h)⟩
            case op5 =>
              rintro bb _ w' ⟨x98, x99, x100, x101, x102, x103, x97, x104, x105, x12, x13, rfl, t0, m1, m2, tB, tc, p98, p99, p100, p101, p102, p103, p97, p104, p105, p12, p13⟩ hb hd K hK
              simp only [Act.put, List.setIfInBounds_toArray, List.set_cons_zero, List.set_cons_succ]
              obtain rfl := p98 (hd 0 (by decide))
              obtain rfl := p102 (hd 4 (by decide))
              rw [if_pos (by rfl)]
              go_simp
              refine (hgt.out _).mono ?_; rintro e w4 ⟨rfl, hbel⟩
              try dsimp only
              exact hK _ _ ⟨.agg (acs (dropL L (Id k))), x99, x100, x101, .int .u16 kk, .tuple #[.int .i64 (sX (dropL L (Id k)) (kk % 128)), .bool true], x97, x104, x105, x12, x13, by simp only [Act.put, List.setIfInBounds_toArray, List.set_cons_zero, List.set_cons_succ], t0.next hbel, m1.next hbel, m2.next hbel, bnext tB (Nat.le_refl _) hbel, cell_next hbel tc, fun _ => rfl, fun h => p99 (by simpa [upb] using h), fun h => p100 (by simpa [upb] using h), fun h => p101 (by simpa [upb] using h), fun _ => rfl, fun _ => rfl, fun h => p97 (by simpa [upb] using h), fun h => p104 (by simpa [upb] using h), fun h => p105 (by simpa [upb] using h), fun h => p12 (by simpa [upb] using h), fun h => p13 (by simpa [upb] using h)⟩
            case op6 =>
              rintro bb _ w' ⟨x98, x99, x100, x101, x102, x103, x97, x104, x105, x12, x13, rfl, t0, m1, m2, tB, tc, p98, p99, p100, p101, p102, p103, p97, p104, p105, p12, p13⟩ hb hd K hK
              simp only [Act.put, List.setIfInBounds_toArray, List.set_cons_zero, List.set_cons_succ]
              obtain rfl := p103 (hd 5 (by decide))
              rw [if_pos (by rfl)]
              go_simp
              exact hK _ _ ⟨x98, x99, x100, x101, x102, .tuple #[.int .i64 (sX (dropL L (Id k)) (kk % 128)), .bool true], .tuple #[.int .i64 (sX (dropL L (Id k)) (kk % 128)), .bool true], x104, x105, x12, x13, by simp only [Act.put, List.setIfInBounds_toArray, List.set_cons_zero, List.set_cons_succ], t0, m1, m2, tB, tc, fun h => p98 (by simpa [upb] using h), fun h => p99 (by simpa [upb] using h), fun h => p100 (by simpa [upb] using h), fun h => p101 (by simpa [upb] using h), fun h => p102 (by simpa [upb] using h), fun _ => rfl, fun _ => rfl, fun h => p104 (by simpa [upb] using h), fun h => p105 (by simpa [upb] using h), fun h => p12 (by simpa [upb] using h), fun h => p13 (by simpa [upb] using h)⟩
            case op7 =>
              rintro bb _ w' ⟨x98, x99, x100, x101, x102, x103, x97, x104, x105, x12, x13, rfl, t0, m1, m2, tB, tc, p98, p99, p100, p101, p102, p103, p97, p104, p105, p12, p13⟩ hb hd K hK
              simp only [Act.put, List.setIfInBounds_toArray, List.set_cons_zero, List.set_cons_succ]
              obtain rfl := p97 (hd 6 (by decide))
              rw [if_pos (by rfl)]
              go_simp
              exact hK _ _ ⟨x98, x99, x100, x101, x102, x103, .tuple #[.int .i64 (sX (dropL L (Id k)) (kk % 128)), .bool true], .int .i64 (sX (dropL L (Id k)) (kk % 128)), x105, x12, x13, by simp only [Act.put, List.setIfInBounds_toArray, List.set_cons_zero, List.set_cons_succ], t0, m1, m2, tB, tc, fun h => p98 (by simpa [upb] using h), fun h => p99 (by simpa [upb] using h), fun h => p100 (by simpa [upb] using h), fun h => p101 (by simpa [upb] using h), fun h => p102 (by simpa [upb] using h), fun h => p103 (by simpa [upb] using h), fun _ => rfl, fun _ => rfl, fun h => p105 (by simpa [upb] using h), fun h => p12 (by simpa [upb] using h), fun h => p13 (by simpa [upb] using h)⟩
            case op8 =>
              rintro bb _ w' ⟨x98, x99, x100, x101, x102, x103, x97, x104, x105, x12, x13, rfl, t0, m1, m2, tB, tc, p98, p99, p100, p101, p102, p103, p97, p104, p105, p12, p13⟩ hb hd K hK
              simp only [Act.put, List.setIfInBounds_toArray, List.set_cons_zero, List.set_cons_succ]
              obtain rfl := p97 (hd 6 (by decide))
              rw [if_pos (by rfl)]
              go_simp
              exact hK _ _ ⟨x98, x99, x100, x101, x102, x103, .tuple #[.int .i64 (sX (dropL L (Id k)) (kk % 128)), .bool true], x104, .bool true, x12, x13, by simp only [Act.put, List.setIfInBounds_toArray, List.set_cons_zero, List.set_cons_succ], t0, m1, m2, tB, tc, fun h => p98 (by simpa [upb] using h), fun h => p99 (by simpa [upb] using h), fun h => p100 (by simpa [upb] using h), fun h => p101 (by simpa [upb] using h), fun h => p102 (by simpa [upb] using h), fun h => p103 (by simpa [upb] using h), fun _ => rfl, fun h => p104 (by simpa [upb] using h), fun _ => rfl, fun h => p12 (by simpa [upb] using h), fun h => p13 (by simpa [upb] using h)⟩
            case op9 =>
              rintro bb _ w' ⟨x98, x99, x100, x101, x102, x103, x97, x104, x105, x12, x13, rfl, t0, m1, m2, tB, tc, p98, p99, p100, p101, p102, p103, p97, p104, p105, p12, p13⟩ hb hd K hK
              simp only [Act.put, List.setIfInBounds_toArray, List.set_cons_zero, List.set_cons_succ]
              obtain rfl := p104 (hd 7 (by decide))
              rw [if_pos (by rfl)]
              go_simp
              exact hK _ _ ⟨x98, x99, x100, x101, x102, x103, x97, .int .i64 (sX (dropL L (Id k)) (kk % 128)), x105, .int .i64 (sX (dropL L (Id k)) (kk % 128)), x13, by simp only [Act.put, List.setIfInBounds_toArray, List.set_cons_zero, List.set_cons_succ], t0, m1, m2, tB, tc, fun h => p98 (by simpa [upb] using h), fun h => p99 (by simpa [upb] using h), fun h => p100 (by simpa [upb] using h), fun h => p101 (by simpa [upb] using h), fun h => p102 (by simpa [upb] using h), fun h => p103 (by simpa [upb] using h), fun h => p97 (by simpa [upb] using h), fun _ => rfl, fun h => p105 (by simpa [upb] using h), fun _ => rfl, fun h => p13 (by simpa [upb] using h)⟩
            case op10 =>
              rintro bb _ w' ⟨x98, x99, x100, x101, x102, x103, x97, x104, x105, x12, x13, rfl, t0, m1, m2, tB, tc, p98, p99, p100, p101, p102, p103, p97, p104, p105, p12, p13⟩ hb hd K hK
              simp only [Act.put, List.setIfInBounds_toArray, List.set_cons_zero, List.set_cons_succ]
              obtain rfl := p105 (hd 8 (by decide))
              rw [if_pos (by rfl)]
              go_simp
              exact hK _ _ ⟨x98, x99, x100, x101, x102, x103, x97, x104, .bool true, x12, .bool true, by simp only [Act.put, List.setIfInBounds_toArray, List.set_cons_zero, List.set_cons_succ], t0, m1, m2, tB, tc, fun h => p98 (by simpa [upb] using h), fun h => p99 (by simpa [upb] using h), fun h => p100 (by simpa [upb] using h), fun h => p101 (by simpa [upb] using h), fun h => p102 (by simpa [upb] using h), fun h => p103 (by simpa [upb] using h), fun h => p97 (by simpa [upb] using h), fun h => p104 (by simpa [upb] using h), fun _ => rfl, fun h => p12 (by simpa [upb] using h), fun _ => rfl⟩
            case done =>
              rintro bb _ w' hb ⟨x98, x99, x100, x101, x102, x103, x97, x104, x105, x12, x13, rfl, t0, m1, m2, tB, tc, p98, p99, p100, p101, p102, p103, p97, p104, p105, p12, p13⟩
              obtain rfl := p98 (hb 0 (by decide))
              obtain rfl := p99 (hb 1 (by decide))
              obtain rfl := p100 (hb 2 (by decide))
              obtain rfl := p101 (hb 3 (by decide))
              obtain rfl := p102 (hb 4 (by decide))
              obtain rfl := p103 (hb 5 (by decide))
              obtain rfl := p97 (hb 6 (by decide))
              obtain rfl := p104 (hb 7 (by decide))
              obtain rfl := p105 (hb 8 (by decide))
              obtain rfl := p12 (hb 9 (by decide))
              obtain rfl := p13 (hb 10 (by decide))
              simp only [Act.put, List.setIfInBounds_toArray, List.set_cons_zero, List.set_cons_succ]
              have hlk := map_lookup31 m2 (kk : Int)
              rw [← hyk, hget, hyk] at hlk
              simp only [Option.getD_some, Option.isSome_some] at hlk
              have tB := Lib.hid tB
              clear t0 m1 m2
              go_wp2_with fail
              exact ⟨⟨j + 1, by go_num, by omega, tB.out⟩, by simp [intOf]; omega⟩
          · obtain rfl : j = Y.length := by omega
            have TB := Lib.hid (bnext UB.out (Nat.le_refl _) jB)
            go_wp2_with fail
            exact ⟨⟨k + 1, _, _, _, by go_num, by omega, INV.out, T0.out, T1.out, T2.out, TB.out⟩, by simp [intOf]; omega⟩
      · cases hf : firstF L with
        | some i =>
          have NW := Lib.hid (show mGet G (addId L) = none ∧ mGet I (addId L) = none by
            obtain ⟨_, _, _, _, h5, h6⟩ := hI.newid (by omega) hf
            have e2 : addId L = idOf L i := by unfold addId; rw [hf]
            rw [e2]; exact ⟨h5, h6⟩)
          have HC := Lib.hid (fun W => (show Calls Try.prog 11 #[.agg (acs L), .int .i64 (X k)] W fun e w' => e = .returned (.tuple #[.agg (acs (addL L (X k))), .int .u16 (addId L), .bool true]) ∧ Below W.heap.size W w' by
            have h := add_any L (X k) hI.len W
            rw [hf] at h
            exact h))
          have I0 := Lib.hid (info29 L hI.len)
          have INV := Lib.hid (hI.add (by omega) hf (X k) (.bool true))
          have I1 := Lib.hid (info29 (addL L (X k)) INV.out.len)
          have J1 := Lib.hid (show (acs L).size = (acs (addL L (X k))).size by first | rfl | rw [acs_size, acs_size, hI.len, INV.out.len])
          have HS := Lib.hid (fun W => ids_any (addL L (X k)) INV.out.len W)
          have Q0d := Lib.hid (show Lies wr.drew w.heap.size L from Q0)
          have Q1d := Lib.hid (show IsMap wr.drew (w.heap.size + 1) G from Q1)
          have Q2d := Lib.hid (show IsMap wr.drew (w.heap.size + 1 + 1) I from Q2)
          have QBd := Lib.hid (QB.drew)
          have hax := Lib.hid (show w.cell? ⟨(a.add (k * 3)).block, (a.add (k * 3)).off + 2, none⟩ = some (.int .i64 (X k)) by
            have := HA.out.x k a h rfl
            rw [add_field a (k * 3) 2 (by omega)] at this
            exact this)
          have HI := Lib.hid hI
          have hd0 : (D k == 0) = false := by simpa using hd
          clear Q0 Q1 Q2 QB hI HR ai ax ai2 ax2
          go_wp2_with fail
          refine wp_region_inv (fun a0 w0 b a' w' => ∃ x48 x49 x50 x51 x52 x53 x54 x47 x55 x56 x57 x7 x8 x9 : Value, a' = ((((((((((((((a0.put (some 48) x48).put (some 49) x49).put (some 50) x50).put (some 51) x51).put (some 52) x52).put (some 53) x53).put (some 54) x54).put (some 47) x47).put (some 55) x55).put (some 56) x56).put (some 57) x57).put (some 7) x7).put (some 8) x8).put (some 9) x9) ∧ Lies w' w.heap.size L ∧ IsMap w' (w.heap.size + 1) G ∧ IsMap w' (w.heap.size + 1 + 1) I ∧ Below w.heap.size w w' ∧ (b 12 = true → b 11 = true) ∧ (b 11 = true → ∃ g R, x7 = .pointer (some ⟨g, 0, none⟩) ∧ w.heap.size + 1 + 1 < g ∧ Lies w' g R ∧ R.length = 128 ∧ (b 12 = true → R = addL L (X k))) ∧ (b 0 = true → x48 = .agg (acs L)) ∧ (b 1 = true → x49 = .slice (some a) len cap) ∧ (b 2 = true → x50 = .int .i64 k) ∧ (b 3 = true → x51 = .pointer (some (a.add (k * 3)))) ∧ (b 4 = true → x52 = .pointer (some ⟨(a.add (k * 3)).block, (a.add (k * 3)).off + 2, none⟩)) ∧ (b 5 = true → x53 = .int .i64 (X k)) ∧ (b 6 = true → x54 = .tuple #[.agg (acs (addL L (X k))), .int .u16 (addId L), .bool true]) ∧ (b 7 = true → x47 = .tuple #[.agg (acs (addL L (X k))), .int .u16 (addId L), .bool true]) ∧ (b 8 = true → x55 = .agg (acs (addL L (X k)))) ∧ (b 9 = true → x56 = .int .u16 (addId L)) ∧ (b 10 = true → x57 = .bool true) ∧ (b 13 = true → x8 = .int .u16 (addId L)) ∧ (b 14 = true → x9 = .bool true)) (by kernel_rfl) (by kernel_rfl) ?start ⟨?op0, ?op1, ?op2, ?op3, ?op4, ?op5, ?op6, ?op7, ?op8, ?op9, ?op10, ?op11, ?op12, ?op13, ?op14, trivial⟩ ?done
          case start => exact ⟨_, _, _, _, _, _, _, _, _, _, _, _, _, _, by simp only [Act.put, List.setIfInBounds_toArray, List.set_cons_zero, List.set_cons_succ]; rfl, Q0d.out, Q1d.out, Q2d.out, QBd.out, fun h => absurd h (by decide), fun h => absurd h (by decide), fun h => absurd h (by decide), fun h => absurd h (by decide), fun h => absurd h (by decide), fun h => absurd h (by decide), fun h => absurd h (by decide), fun h => absurd h (by decide), fun h => absurd h (by decide), fun h => absurd h (by decide), fun h => absurd h (by decide), fun h => absurd h (by decide), fun h => absurd h (by decide), fun h => absurd h (by decide), fun h => absurd h (by decide)⟩
          case op0 =>
            rintro bb _ w' ⟨x48, x49, x50, x51, x52, x53, x54, x47, x55, x56, x57, x7, x8, x9, rfl, t0, m1, m2, tB, tO, tP, p48, p49, p50, p51, p52, p53, p54, p47, p55, p56, p57, p8, p9⟩ hb hd K hK
            simp only [Act.put, List.setIfInBounds_toArray, List.set_cons_zero, List.set_cons_succ]
            rw [if_pos (by rfl)]
            refine wp_load_row 29 (.tmp 3) rfl _ rfl _ _ _ _ t0 Try.underlying29 rfl I0.out ?_
            try simp only [Act.put, List.setIfInBounds_toArray, List.set_cons_zero, List.set_cons_succ]
            exact hK _ _ ⟨.agg (acs L), x49, x50, x51, x52, x53, x54, x47, x55, x56, x57, x7, x8, x9, by simp only [Act.put, List.setIfInBounds_toArray, List.set_cons_zero, List.set_cons_succ], t0, m1, m2, tB, fun h => by have := tO (by simpa [upb] using h); simpa [upb] using this, fun h => (by obtain ⟨g, R, e, hg, hl, hr, ht⟩ := tP (by simpa [upb] using h); exact ⟨g, R, e, hg, hl, hr, fun h => ht (by simpa [upb] using h)⟩), fun _ => rfl, fun h => p49 (by simpa [upb] using h), fun h => p50 (by simpa [upb] using h), fun h => p51 (by simpa [upb] using h), fun h => p52 (by simpa [upb] using h), fun h => p53 (by simpa [upb] using h), fun h => p54 (by simpa [upb] using h), fun h => p47 (by simpa [upb] using h), fun h => p55 (by simpa [upb] using h), fun h => p56 (by simpa [upb] using h), fun h => p57 (by simpa [upb] using h), fun h => p8 (by simpa [upb] using h), fun h => p9 (by simpa [upb] using h)⟩
          case op1 =>
            rintro bb _ w' ⟨x48, x49, x50, x51, x52, x53, x54, x47, x55, x56, x57, x7, x8, x9, rfl, t0, m1, m2, tB, tO, tP, p48, p49, p50, p51, p52, p53, p54, p47, p55, p56, p57, p8, p9⟩ hb hd K hK
            simp only [Act.put, List.setIfInBounds_toArray, List.set_cons_zero, List.set_cons_succ]
            rw [if_pos (by rfl)]
            go_simp
            exact hK _ _ ⟨x48, .slice (some a) len cap, x50, x51, x52, x53, x54, x47, x55, x56, x57, x7, x8, x9, by simp only [Act.put, List.setIfInBounds_toArray, List.set_cons_zero, List.set_cons_succ], t0, m1, m2, tB, fun h => by have := tO (by simpa [upb] using h); simpa [upb] using this, fun h => (by obtain ⟨g, R, e, hg, hl, hr, ht⟩ := tP (by simpa [upb] using h); exact ⟨g, R, e, hg, hl, hr, fun h => ht (by simpa [upb] using h)⟩), fun h => p48 (by simpa [upb] using h), fun _ => rfl, fun h => p50 (by simpa [upb] using h), fun h => p51 (by simpa [upb] using h), fun h => p52 (by simpa [upb] using h), fun h => p53 (by simpa [upb] using h), fun h => p54 (by simpa [upb] using h), fun h => p47 (by simpa [upb] using h), fun h => p55 (by simpa [upb] using h), fun h => p56 (by simpa [upb] using h), fun h => p57 (by simpa [upb] using h), fun h => p8 (by simpa [upb] using h), fun h => p9 (by simpa [upb] using h)⟩
          case op2 =>
            rintro bb _ w' ⟨x48, x49, x50, x51, x52, x53, x54, x47, x55, x56, x57, x7, x8, x9, rfl, t0, m1, m2, tB, tO, tP, p48, p49, p50, p51, p52, p53, p54, p47, p55, p56, p57, p8, p9⟩ hb hd K hK
            simp only [Act.put, List.setIfInBounds_toArray, List.set_cons_zero, List.set_cons_succ]
            rw [if_pos (by rfl)]
            go_simp
            exact hK _ _ ⟨x48, x49, .int .i64 k, x51, x52, x53, x54, x47, x55, x56, x57, x7, x8, x9, by simp only [Act.put, List.setIfInBounds_toArray, List.set_cons_zero, List.set_cons_succ], t0, m1, m2, tB, fun h => by have := tO (by simpa [upb] using h); simpa [upb] using this, fun h => (by obtain ⟨g, R, e, hg, hl, hr, ht⟩ := tP (by simpa [upb] using h); exact ⟨g, R, e, hg, hl, hr, fun h => ht (by simpa [upb] using h)⟩), fun h => p48 (by simpa [upb] using h), fun h => p49 (by simpa [upb] using h), fun _ => rfl, fun h => p51 (by simpa [upb] using h), fun h => p52 (by simpa [upb] using h), fun h => p53 (by simpa [upb] using h), fun h => p54 (by simpa [upb] using h), fun h => p47 (by simpa [upb] using h), fun h => p55 (by simpa [upb] using h), fun h => p56 (by simpa [upb] using h), fun h => p57 (by simpa [upb] using h), fun h => p8 (by simpa [upb] using h), fun h => p9 (by simpa [upb] using h)⟩
          case op3 =>
            rintro bb _ w' ⟨x48, x49, x50, x51, x52, x53, x54, x47, x55, x56, x57, x7, x8, x9, rfl, t0, m1, m2, tB, tO, tP, p48, p49, p50, p51, p52, p53, p54, p47, p55, p56, p57, p8, p9⟩ hb hd K hK
            simp only [Act.put, List.setIfInBounds_toArray, List.set_cons_zero, List.set_cons_succ]
            obtain rfl := p49 (hd 1 (by decide))
            obtain rfl := p50 (hd 2 (by decide))
            rw [if_pos (by rfl)]
            go_simp
            exact hK _ _ ⟨x48, .slice (some a) len cap, .int .i64 k, .pointer (some (a.add (k * 3))), x52, x53, x54, x47, x55, x56, x57, x7, x8, x9, by simp only [Act.put, List.setIfInBounds_toArray, List.set_cons_zero, List.set_cons_succ], t0, m1, m2, tB, fun h => by have := tO (by simpa [upb] using h); simpa [upb] using this, fun h => (by obtain ⟨g, R, e, hg, hl, hr, ht⟩ := tP (by simpa [upb] using h); exact ⟨g, R, e, hg, hl, hr, fun h => ht (by simpa [upb] using h)⟩), fun h => p48 (by simpa [upb] using h), fun _ => rfl, fun _ => rfl, fun _ => rfl, fun h => p52 (by simpa [upb] using h), fun h => p53 (by simpa [upb] using h), fun h => p54 (by simpa [upb] using h), fun h => p47 (by simpa [upb] using h), fun h => p55 (by simpa [upb] using h), fun h => p56 (by simpa [upb] using h), fun h => p57 (by simpa [upb] using h), fun h => p8 (by simpa [upb] using h), fun h => p9 (by simpa [upb] using h)⟩
          case op4 =>
            rintro bb _ w' ⟨x48, x49, x50, x51, x52, x53, x54, x47, x55, x56, x57, x7, x8, x9, rfl, t0, m1, m2, tB, tO, tP, p48, p49, p50, p51, p52, p53, p54, p47, p55, p56, p57, p8, p9⟩ hb hd K hK
            simp only [Act.put, List.setIfInBounds_toArray, List.set_cons_zero, List.set_cons_succ]
            obtain rfl := p51 (hd 3 (by decide))
            rw [if_pos (by rfl)]
            go_simp
            exact hK _ _ ⟨x48, x49, x50, .pointer (some (a.add (k * 3))), .pointer (some ⟨(a.add (k * 3)).block, (a.add (k * 3)).off + 2, none⟩), x53, x54, x47, x55, x56, x57, x7, x8, x9, by simp only [Act.put, List.setIfInBounds_toArray, List.set_cons_zero, List.set_cons_succ], t0, m1, m2, tB, fun h => by have := tO (by simpa [upb] using h); simpa [upb] using this, fun h => (by obtain ⟨g, R, e, hg, hl, hr, ht⟩ := tP (by simpa [upb] using h); exact ⟨g, R, e, hg, hl, hr, fun h => ht (by simpa [upb] using h)⟩), fun h => p48 (by simpa [upb] using h), fun h => p49 (by simpa [upb] using h), fun h => p50 (by simpa [upb] using h), fun _ => rfl, fun _ => rfl, fun h => p53 (by simpa [upb] using h), fun h => p54 (by simpa [upb] using h), fun h => p47 (by simpa [upb] using h), fun h => p55 (by simpa [upb] using h), fun h => p56 (by simpa [upb] using h), fun h => p57 (by simpa [upb] using h), fun h => p8 (by simpa [upb] using h), fun h => p9 (by simpa [upb] using h)⟩
          case op5 =>
            rintro bb _ w' ⟨x48, x49, x50, x51, x52, x53, x54, x47, x55, x56, x57, x7, x8, x9, rfl, t0, m1, m2, tB, tO, tP, p48, p49, p50, p51, p52, p53, p54, p47, p55, p56, p57, p8, p9⟩ hb hd K hK
            simp only [Act.put, List.setIfInBounds_toArray, List.set_cons_zero, List.set_cons_succ]
            obtain rfl := p52 (hd 4 (by decide))
            rw [if_pos (by rfl)]
            have tc := cell_next tB hax.out
            go_simp
            exact hK _ _ ⟨x48, x49, x50, x51, .pointer (some ⟨(a.add (k * 3)).block, (a.add (k * 3)).off + 2, none⟩), .int .i64 (X k), x54, x47, x55, x56, x57, x7, x8, x9, by simp only [Act.put, List.setIfInBounds_toArray, List.set_cons_zero, List.set_cons_succ], t0, m1, m2, tB, fun h => by have := tO (by simpa [upb] using h); simpa [upb] using this, fun h => (by obtain ⟨g, R, e, hg, hl, hr, ht⟩ := tP (by simpa [upb] using h); exact ⟨g, R, e, hg, hl, hr, fun h => ht (by simpa [upb] using h)⟩), fun h => p48 (by simpa [upb] using h), fun h => p49 (by simpa [upb] using h), fun h => p50 (by simpa [upb] using h), fun h => p51 (by simpa [upb] using h), fun _ => rfl, fun _ => rfl, fun h => p54 (by simpa [upb] using h), fun h => p47 (by simpa [upb] using h), fun h => p55 (by simpa [upb] using h), fun h => p56 (by simpa [upb] using h), fun h => p57 (by simpa [upb] using h), fun h => p8 (by simpa [upb] using h), fun h => p9 (by simpa [upb] using h)⟩
          case op6 =>
            rintro bb _ w' ⟨x48, x49, x50, x51, x52, x53, x54, x47, x55, x56, x57, x7, x8, x9, rfl, t0, m1, m2, tB, tO, tP, p48, p49, p50, p51, p52, p53, p54, p47, p55, p56, p57, p8, p9⟩ hb hd K hK
            simp only [Act.put, List.setIfInBounds_toArray, List.set_cons_zero, List.set_cons_succ]
            obtain rfl := p48 (hd 0 (by decide))
            obtain rfl := p53 (hd 5 (by decide))
            rw [if_pos (by rfl)]
            go_simp
            refine (HC.out _).mono ?_; rintro e w4 ⟨rfl, hbel⟩
            try dsimp only
            exact hK _ _ ⟨.agg (acs L), x49, x50, x51, x52, .int .i64 (X k), .tuple #[.agg (acs (addL L (X k))), .int .u16 (addId L), .bool true], x47, x55, x56, x57, x7, x8, x9, by simp only [Act.put, List.setIfInBounds_toArray, List.set_cons_zero, List.set_cons_succ], t0.next hbel, m1.next hbel, m2.next hbel, bnext tB (Nat.le_refl _) hbel, fun h => by have := tO (by simpa [upb] using h); simpa [upb] using this, fun h => (by obtain ⟨g, R, e, hg, hl, hr, ht⟩ := tP (by simpa [upb] using h); exact ⟨g, R, e, hg, hl.next hbel, hr, fun h => ht (by simpa [upb] using h)⟩), fun _ => rfl, fun h => p49 (by simpa [upb] using h), fun h => p50 (by simpa [upb] using h), fun h => p51 (by simpa [upb] using h), fun h => p52 (by simpa [upb] using h), fun _ => rfl, fun _ => rfl, fun h => p47 (by simpa [upb] using h), fun h => p55 (by simpa [upb] using h), fun h => p56 (by simpa [upb] using h), fun h => p57 (by simpa [upb] using h), fun h => p8 (by simpa [upb] using h), fun h => p9 (by simpa [upb] using h)⟩
          case op7 =>
            rintro bb _ w' ⟨x48, x49, x50, x51, x52, x53, x54, x47, x55, x56, x57, x7, x8, x9, rfl, t0, m1, m2, tB, tO, tP, p48, p49, p50, p51, p52, p53, p54, p47, p55, p56, p57, p8, p9⟩ hb hd K hK
            simp only [Act.put, List.setIfInBounds_toArray, List.set_cons_zero, List.set_cons_succ]
            obtain rfl := p54 (hd 6 (by decide))
            rw [if_pos (by rfl)]
            go_simp
            exact hK _ _ ⟨x48, x49, x50, x51, x52, x53, .tuple #[.agg (acs (addL L (X k))), .int .u16 (addId L), .bool true], .tuple #[.agg (acs (addL L (X k))), .int .u16 (addId L), .bool true], x55, x56, x57, x7, x8, x9, by simp only [Act.put, List.setIfInBounds_toArray, List.set_cons_zero, List.set_cons_succ], t0, m1, m2, tB, fun h => by have := tO (by simpa [upb] using h); simpa [upb] using this, fun h => (by obtain ⟨g, R, e, hg, hl, hr, ht⟩ := tP (by simpa [upb] using h); exact ⟨g, R, e, hg, hl, hr, fun h => ht (by simpa [upb] using h)⟩), fun h => p48 (by simpa [upb] using h), fun h => p49 (by simpa [upb] using h), fun h => p50 (by simpa [upb] using h), fun h => p51 (by simpa [upb] using h), fun h => p52 (by simpa [upb] using h), fun h => p53 (by simpa [upb] using h), fun _ => rfl, fun _ => rfl, fun h => p55 (by simpa [upb] using h), fun h => p56 (by simpa [upb] using h), fun h => p57 (by simpa [upb] using h), fun h => p8 (by simpa [upb] using h), fun h => p9 (by simpa [upb] using h)⟩
          case op8 =>
            rintro bb _ w' ⟨x48, x49, x50, x51, x52, x53, x54, x47, x55, x56, x57, x7, x8, x9, rfl, t0, m1, m2, tB, tO, tP, p48, p49, p50, p51, p52, p53, p54, p47, p55, p56, p57, p8, p9⟩ hb hd K hK
            simp only [Act.put, List.setIfInBounds_toArray, List.set_cons_zero, List.set_cons_succ]
            obtain rfl := p47 (hd 7 (by decide))
            rw [if_pos (by rfl)]
            go_simp
            exact hK _ _ ⟨x48, x49, x50, x51, x52, x53, x54, .tuple #[.agg (acs (addL L (X k))), .int .u16 (addId L), .bool true], .agg (acs (addL L (X k))), x56, x57, x7, x8, x9, by simp only [Act.put, List.setIfInBounds_toArray, List.set_cons_zero, List.set_cons_succ], t0, m1, m2, tB, fun h => by have := tO (by simpa [upb] using h); simpa [upb] using this, fun h => (by obtain ⟨g, R, e, hg, hl, hr, ht⟩ := tP (by simpa [upb] using h); exact ⟨g, R, e, hg, hl, hr, fun h => ht (by simpa [upb] using h)⟩), fun h => p48 (by simpa [upb] using h), fun h => p49 (by simpa [upb] using h), fun h => p50 (by simpa [upb] using h), fun h => p51 (by simpa [upb] using h), fun h => p52 (by simpa [upb] using h), fun h => p53 (by simpa [upb] using h), fun h => p54 (by simpa [upb] using h), fun _ => rfl, fun _ => rfl, fun h => p56 (by simpa [upb] using h), fun h => p57 (by simpa [upb] using h), fun h => p8 (by simpa [upb] using h), fun h => p9 (by simpa [upb] using h)⟩
          case op9 =>
            rintro bb _ w' ⟨x48, x49, x50, x51, x52, x53, x54, x47, x55, x56, x57, x7, x8, x9, rfl, t0, m1, m2, tB, tO, tP, p48, p49, p50, p51, p52, p53, p54, p47, p55, p56, p57, p8, p9⟩ hb hd K hK
            simp only [Act.put, List.setIfInBounds_toArray, List.set_cons_zero, List.set_cons_succ]
            obtain rfl := p47 (hd 7 (by decide))
            rw [if_pos (by rfl)]
            go_simp
            exact hK _ _ ⟨x48, x49, x50, x51, x52, x53, x54, .tuple #[.agg (acs (addL L (X k))), .int .u16 (addId L), .bool true], x55, .int .u16 (addId L), x57, x7, x8, x9, by simp only [Act.put, List.setIfInBounds_toArray, List.set_cons_zero, List.set_cons_succ], t0, m1, m2, tB, fun h => by have := tO (by simpa [upb] using h); simpa [upb] using this, fun h => (by obtain ⟨g, R, e, hg, hl, hr, ht⟩ := tP (by simpa [upb] using h); exact ⟨g, R, e, hg, hl, hr, fun h => ht (by simpa [upb] using h)⟩), fun h => p48 (by simpa [upb] using h), fun h => p49 (by simpa [upb] using h), fun h => p50 (by simpa [upb] using h), fun h => p51 (by simpa [upb] using h), fun h => p52 (by simpa [upb] using h), fun h => p53 (by simpa [upb] using h), fun h => p54 (by simpa [upb] using h), fun _ => rfl, fun h => p55 (by simpa [upb] using h), fun _ => rfl, fun h => p57 (by simpa [upb] using h), fun h => p8 (by simpa [upb] using h), fun h => p9 (by simpa [upb] using h)⟩
          case op10 =>
            rintro bb _ w' ⟨x48, x49, x50, x51, x52, x53, x54, x47, x55, x56, x57, x7, x8, x9, rfl, t0, m1, m2, tB, tO, tP, p48, p49, p50, p51, p52, p53, p54, p47, p55, p56, p57, p8, p9⟩ hb hd K hK
            simp only [Act.put, List.setIfInBounds_toArray, List.set_cons_zero, List.set_cons_succ]
            obtain rfl := p47 (hd 7 (by decide))
            rw [if_pos (by rfl)]
            go_simp
            exact hK _ _ ⟨x48, x49, x50, x51, x52, x53, x54, .tuple #[.agg (acs (addL L (X k))), .int .u16 (addId L), .bool true], x55, x56, .bool true, x7, x8, x9, by simp only [Act.put, List.setIfInBounds_toArray, List.set_cons_zero, List.set_cons_succ], t0, m1, m2, tB, fun h => by have := tO (by simpa [upb] using h); simpa [upb] using this, fun h => (by obtain ⟨g, R, e, hg, hl, hr, ht⟩ := tP (by simpa [upb] using h); exact ⟨g, R, e, hg, hl, hr, fun h => ht (by simpa [upb] using h)⟩), fun h => p48 (by simpa [upb] using h), fun h => p49 (by simpa [upb] using h), fun h => p50 (by simpa [upb] using h), fun h => p51 (by simpa [upb] using h), fun h => p52 (by simpa [upb] using h), fun h => p53 (by simpa [upb] using h), fun h => p54 (by simpa [upb] using h), fun _ => rfl, fun h => p55 (by simpa [upb] using h), fun h => p56 (by simpa [upb] using h), fun _ => rfl, fun h => p8 (by simpa [upb] using h), fun h => p9 (by simpa [upb] using h)⟩
          case op11 =>
            rintro bb _ w' ⟨x48, x49, x50, x51, x52, x53, x54, x47, x55, x56, x57, x7, x8, x9, rfl, t0, m1, m2, tB, tO, tP, p48, p49, p50, p51, p52, p53, p54, p47, p55, p56, p57, p8, p9⟩ hb hd K hK
            simp only [Act.put, List.setIfInBounds_toArray, List.set_cons_zero, List.set_cons_succ]
            rw [if_pos (by rfl)]
            have hz := zero29' w'
            go_simp
            exact hK _ _ ⟨x48, x49, x50, x51, x52, x53, x54, x47, x55, x56, x57, (.pointer (some ⟨w'.heap.size, 0, none⟩)), x8, x9, by simp only [Act.put, List.setIfInBounds_toArray, List.set_cons_zero, List.set_cons_succ], lies_past _ _ _ _ t0, m1.next ((Below.refl _ _).alloc (Nat.le_refl _) _), m2.next ((Below.refl _ _).alloc (Nat.le_refl _) _), tB.alloc tB.size _, fun _ => by simp [upb], fun _ => ⟨w'.heap.size, Z0, rfl, m2.lt, lies_new _ _ _ rfl, Z0_len, fun h => (by have h2 := tO (by simpa [upb] using h); rw [hb] at h2; cases h2)⟩, fun h => p48 (by simpa [upb] using h), fun h => p49 (by simpa [upb] using h), fun h => p50 (by simpa [upb] using h), fun h => p51 (by simpa [upb] using h), fun h => p52 (by simpa [upb] using h), fun h => p53 (by simpa [upb] using h), fun h => p54 (by simpa [upb] using h), fun h => p47 (by simpa [upb] using h), fun h => p55 (by simpa [upb] using h), fun h => p56 (by simpa [upb] using h), fun h => p57 (by simpa [upb] using h), fun h => p8 (by simpa [upb] using h), fun h => p9 (by simpa [upb] using h)⟩
          case op12 =>
            rintro bb _ w' ⟨x48, x49, x50, x51, x52, x53, x54, x47, x55, x56, x57, x7, x8, x9, rfl, t0, m1, m2, tB, tO, tP, p48, p49, p50, p51, p52, p53, p54, p47, p55, p56, p57, p8, p9⟩ hb hd K hK
            simp only [Act.put, List.setIfInBounds_toArray, List.set_cons_zero, List.set_cons_succ]
            obtain rfl := p55 (hd 8 (by decide))
            rw [if_pos (by rfl)]
            obtain ⟨g, R, rfl, hg, hl, hr, ht⟩ := tP (hd 11 (by decide))
            refine wp_store_row 29 (.tmp 7) (.tmp 55) rfl _ _ rfl rfl _ _ hl I1.out (by rw [acs_size, acs_size, hr, INV.out.len]) (acs_one _) ?_
            try simp only [Act.put, List.setIfInBounds_toArray, List.set_cons_zero, List.set_cons_succ]
            exact hK _ _ ⟨x48, x49, x50, x51, x52, x53, x54, x47, .agg (acs (addL L (X k))), x56, x57, (.pointer (some ⟨g, 0, none⟩)), x8, x9, by simp only [Act.put, List.setIfInBounds_toArray, List.set_cons_zero, List.set_cons_succ], t0.row (by omega) _, m1.row (by omega) _, m2.row (by omega) _, below_setRow tB (by omega) _, fun _ => by first | (simp [upb]; done) | (have := hd 11 (by decide); simpa [upb] using this), fun _ => ⟨g, _, rfl, hg, hl.same _, INV.out.len, fun _ => rfl⟩, fun h => p48 (by simpa [upb] using h), fun h => p49 (by simpa [upb] using h), fun h => p50 (by simpa [upb] using h), fun h => p51 (by simpa [upb] using h), fun h => p52 (by simpa [upb] using h), fun h => p53 (by simpa [upb] using h), fun h => p54 (by simpa [upb] using h), fun h => p47 (by simpa [upb] using h), fun _ => rfl, fun h => p56 (by simpa [upb] using h), fun h => p57 (by simpa [upb] using h), fun h => p8 (by simpa [upb] using h), fun h => p9 (by simpa [upb] using h)⟩
          case op13 =>
            rintro bb _ w' ⟨x48, x49, x50, x51, x52, x53, x54, x47, x55, x56, x57, x7, x8, x9, rfl, t0, m1, m2, tB, tO, tP, p48, p49, p50, p51, p52, p53, p54, p47, p55, p56, p57, p8, p9⟩ hb hd K hK
            simp only [Act.put, List.setIfInBounds_toArray, List.set_cons_zero, List.set_cons_succ]
            obtain rfl := p56 (hd 9 (by decide))
            rw [if_pos (by rfl)]
            go_simp
            exact hK _ _ ⟨x48, x49, x50, x51, x52, x53, x54, x47, x55, .int .u16 (addId L), x57, x7, .int .u16 (addId L), x9, by simp only [Act.put, List.setIfInBounds_toArray, List.set_cons_zero, List.set_cons_succ], t0, m1, m2, tB, fun h => by have := tO (by simpa [upb] using h); simpa [upb] using this, fun h => (by obtain ⟨g, R, e, hg, hl, hr, ht⟩ := tP (by simpa [upb] using h); exact ⟨g, R, e, hg, hl, hr, fun h => ht (by simpa [upb] using h)⟩), fun h => p48 (by simpa [upb] using h), fun h => p49 (by simpa [upb] using h), fun h => p50 (by simpa [upb] using h), fun h => p51 (by simpa [upb] using h), fun h => p52 (by simpa [upb] using h), fun h => p53 (by simpa [upb] using h), fun h => p54 (by simpa [upb] using h), fun h => p47 (by simpa [upb] using h), fun h => p55 (by simpa [upb] using h), fun _ => rfl, fun h => p57 (by simpa [upb] using h), fun _ => rfl, fun h => p9 (by simpa [upb] using h)⟩
          case op14 =>
            rintro bb _ w' ⟨x48, x49, x50, x51, x52, x53, x54, x47, x55, x56, x57, x7, x8, x9, rfl, t0, m1, m2, tB, tO, tP, p48, p49, p50, p51, p52, p53, p54, p47, p55, p56, p57, p8, p9⟩ hb hd K hK
            simp only [Act.put, List.setIfInBounds_toArray, List.set_cons_zero, List.set_cons_succ]
            obtain rfl := p57 (hd 10 (by decide))
            rw [if_pos (by rfl)]
            go_simp
            exact hK _ _ ⟨x48, x49, x50, x51, x52, x53, x54, x47, x55, x56, .bool true, x7, x8, .bool true, by simp only [Act.put, List.setIfInBounds_toArray, List.set_cons_zero, List.set_cons_succ], t0, m1, m2, tB, fun h => by have := tO (by simpa [upb] using h); simpa [upb] using this, fun h => (by obtain ⟨g, R, e, hg, hl, hr, ht⟩ := tP (by simpa [upb] using h); exact ⟨g, R, e, hg, hl, hr, fun h => ht (by simpa [upb] using h)⟩), fun h => p48 (by simpa [upb] using h), fun h => p49 (by simpa [upb] using h), fun h => p50 (by simpa [upb] using h), fun h => p51 (by simpa [upb] using h), fun h => p52 (by simpa [upb] using h), fun h => p53 (by simpa [upb] using h), fun h => p54 (by simpa [upb] using h), fun h => p47 (by simpa [upb] using h), fun h => p55 (by simpa [upb] using h), fun h => p56 (by simpa [upb] using h), fun _ => rfl, fun h => p8 (by simpa [upb] using h), fun _ => rfl⟩
          case done =>
            rintro bb _ w' hb ⟨x48, x49, x50, x51, x52, x53, x54, x47, x55, x56, x57, x7, x8, x9, rfl, t0, m1, m2, tB, tO, tP, p48, p49, p50, p51, p52, p53, p54, p47, p55, p56, p57, p8, p9⟩
            obtain rfl := p48 (hb 0 (by decide))
            obtain rfl := p49 (hb 1 (by decide))
            obtain rfl := p50 (hb 2 (by decide))
            obtain rfl := p51 (hb 3 (by decide))
            obtain rfl := p52 (hb 4 (by decide))
            obtain rfl := p53 (hb 5 (by decide))
            obtain rfl := p54 (hb 6 (by decide))
            obtain rfl := p47 (hb 7 (by decide))
            obtain rfl := p55 (hb 8 (by decide))
            obtain rfl := p56 (hb 9 (by decide))
            obtain rfl := p57 (hb 10 (by decide))
            obtain rfl := p8 (hb 13 (by decide))
            obtain rfl := p9 (hb 14 (by decide))
            simp only [Act.put, List.setIfInBounds_toArray, List.set_cons_zero, List.set_cons_succ]
            obtain ⟨g, R, rfl, hg, hl, hr, ht⟩ := tP (hb 11 (by decide))
            rw [ht (hb 12 (by decide))] at hl
            clear tP tO ht hr
            have V0 := Lib.hid t0
            have V1 := Lib.hid (m1.row (by omega : w.heap.size + 1 ≠ w.heap.size) (acs (addL L (X k))))
            have V2 := Lib.hid (m2.row (by omega : w.heap.size + 1 + 1 ≠ w.heap.size) (acs (addL L (X k))))
            have VB := Lib.hid (below_setRow tB (Nat.le_refl _) (acs (addL L (X k))))
            have V0' := Lib.hid (V0.out.same (addL L (X k)))
            have hlg := Lib.hid hl
            clear t0 m1 m2 tB hl
            have hlk := map_lookup30 V1.out (addId L)
            rw [NW.out.1] at hlk
            simp only [Option.getD_none] at hlk
            obtain ⟨w8, d8, V1, b8⟩ := map_put (t := 30) Try.underlying30 V1.out (addId L) (.bool true) NW.out.1
            have V2 := Lib.hid (V2.out.but (by omega) b8)
            have V0' := Lib.hid (V0'.out.but (by omega) b8)
            have VB := Lib.hid (below_but VB.out (by omega) b8)
            have tc := cell_next VB.out hax.out
            obtain ⟨w9, d9, V2, b9⟩ := map_put (t := 31) Try.underlying31 V2.out (addId L) (.int .i64 (X k)) NW.out.2
            have V1 := Lib.hid (V1.but (by omega) b9)
            have V0' := Lib.hid (V0'.out.but (by omega) b9)
            have VB := Lib.hid (below_but VB.out (by omega) b9)
            have V2 := Lib.hid V2
            clear b8 b9
            go_wp2_with (first | (refine wpList_load_row rfl 29 (.tmp 7) rfl _ rfl _ _ _ _ hlg.out Try.underlying29 rfl I1.out ?_) | (refine wpList_store_row rfl 29 (.tmp 3) (.tmp 58) rfl _ _ rfl rfl _ _ V0.out I1.out J1.out (acs_one _) ?_) | (refine wpList_load_row rfl 29 (.tmp 3) rfl _ rfl _ _ _ _ V0'.out Try.underlying29 rfl I1.out ?_))
            clear d8 d9 hlk tc V0 I1 J1 hlg
            refine (HS.out _).mono ?_; rintro e w6 ⟨v6, rfl, R6, b6⟩
            obtain ⟨B6, c6, rfl, q6, C6⟩ := rd_R R6
            have U0 := Lib.hid (V0'.out.next b6)
            have U1 := Lib.hid (V1.out.next b6)
            have U2 := Lib.hid (V2.out.next b6)
            have UB := Lib.hid (bnext VB.out (Nat.le_refl _) b6)
            have hcnt : (I ++ [(addId L, Value.int .i64 (X k))]).length = (idsL (addL L (X k)) 128).length := by rw [ids_cnt]; exact INV.out.cnt
            have hY := Lib.hid (fun y hy => INV.out.each (by omega) y hy)
            have hle := idsL_len (addL L (X k)) 128
            have hln := map_len 3 U2.out
            rw [hcnt] at hln
            obtain ⟨Y, hYe⟩ : ∃ Y, Y = idsL (addL L (X k)) 128 := ⟨_, rfl⟩
            rw [← hYe] at C6 hY hln hle q6 ⊢
            have C6 := Lib.hid C6
            clear hcnt hYe b6 R6 V0' V1 V2 VB
            go_wp2_with fail
            obtain ⟨wa, hwa⟩ : ∃ x, x = w6 := ⟨_, rfl⟩
            go_loopw [11] (fun v wr => ∃ j : Nat, v = .int .i64 j ∧ j ≤ Y.length ∧ Below w6.heap.size w6 wr) (fun v _ => Y.length - (intOf v).toNat)
            case atStart => exact ⟨0, rfl, by omega, Below.refl _ _⟩
            case round =>
              obtain ⟨j, rfl, hj, jB⟩ := hrel
              have T0 := Lib.hid (U0.out.next jB)
              have T1 := Lib.hid (U1.out.next jB)
              have T2 := Lib.hid (U2.out.next jB)
              have TB := Lib.hid (bnext UB.out (Nat.le_refl _) jB)
              by_cases hjl : j < Y.length
              · obtain ⟨kk, hyk, hlt, hhas, hget⟩ := hY.out Y[j] (List.getElem_mem hjl)
                have hcell : ∃ ad, B6 = some ad ∧ wr.cell? (ad.add j) = some (.int .u16 (kk : Int)) := by
                  obtain ⟨_, _, hrd⟩ := Kd.C_below C6.out jB
                  obtain ⟨ad, had, hc⟩ := hrd (by omega)
                  refine ⟨ad, had, ?_⟩
                  obtain ⟨cs, hk1, hk2, hk3⟩ := hc j Y[j] (List.getElem?_eq_getElem hjl)
                  have hcs : cs = [.int .u16 Y[j]] := hk2
                  have := hk3 0 _ (by rw [hcs]; rfl)
                  rw [hyk, show j * (Kd.int .u16).sz + 0 = j by show j * 1 + 0 = j; omega] at this
                  exact this
                obtain ⟨ad6, rfl, hcell⟩ := hcell
                have hj1 : (j : Int) < Y.length := by omega
                have hgt := Lib.hid (fun W => get_any (addL L (X k)) kk INV.out.len hlt W)
                rw [hhas, if_pos rfl] at hgt
                have T0d := Lib.hid (show Lies wr.drew w.heap.size (addL L (X k)) from T0.out)
                have T1d := Lib.hid (show IsMap wr.drew (w.heap.size + 1) (G ++ [(addId L, Value.bool true)]) from T1.out)
                have T2d := Lib.hid (show IsMap wr.drew (w.heap.size + 1 + 1) (I ++ [(addId L, Value.int .i64 (X k))]) from T2.out)
                have TBd := Lib.hid (jB.drew)
                have I2 := Lib.hid (info29 (addL L (X k)) INV.out.len)
                clear T0 T1 T2 TB jB
                go_wp2_with fail
                refine wp_region_inv (fun a0 w0 b a' w' => ∃ x98 x99 x100 x101 x102 x103 x97 x104 x105 x12 x13 : Value, a' = (((((((((((a0.put (some 98) x98).put (some 99) x99).put (some 100) x100).put (some 101) x101).put (some 102) x102).put (some 103) x103).put (some 97) x97).put (some 104) x104).put (some 105) x105).put (some 12) x12).put (some 13) x13) ∧ Lies w' w.heap.size (addL L (X k)) ∧ IsMap w' (w.heap.size + 1) (G ++ [(addId L, Value.bool true)]) ∧ IsMap w' (w.heap.size + 1 + 1) (I ++ [(addId L, Value.int .i64 (X k))]) ∧ Below w6.heap.size w6 w' ∧ w'.cell? (ad6.add j) = some (.int .u16 (kk : Int)) ∧ (b 0 = true → x98 = .agg (acs (addL L (X k)))) ∧ (b 1 = true → x99 = .slice (some ad6) Y.length c6) ∧ (b 2 = true → x100 = .int .i64 j) ∧ (b 3 = true → x101 = .pointer (some (ad6.add j))) ∧ (b 4 = true → x102 = .int .u16 kk) ∧ (b 5 = true → x103 = .tuple #[.int .i64 (sX (addL L (X k)) (kk % 128)), .bool true]) ∧ (b 6 = true → x97 = .tuple #[.int .i64 (sX (addL L (X k)) (kk % 128)), .bool true]) ∧ (b 7 = true → x104 = .int .i64 (sX (addL L (X k)) (kk % 128))) ∧ (b 8 = true → x105 = .bool true) ∧ (b 9 = true → x12 = .int .i64 (sX (addL L (X k)) (kk % 128))) ∧ (b 10 = true → x13 = .bool true)) (by kernel_rfl) (by kernel_rfl) ?start ⟨?op0, ?op1, ?op2, ?op3, ?op4, ?op5, ?op6, ?op7, ?op8, ?op9, ?op10, trivial⟩ ?done
                case start => exact ⟨_, _, _, _, _, _, _, _, _, _, _, by simp only [Act.put, List.setIfInBounds_toArray, List.set_cons_zero, List.set_cons_succ]; rfl, T0d.out, T1d.out, T2d.out, TBd.out, hcell, fun h => absurd h (by decide), fun h => absurd h (by decide), fun h => absurd h (by decide), fun h => absurd h (by decide), fun h => absurd h (by decide), fun h => absurd h (by decide), fun h => absurd h (by decide), fun h => absurd h (by decide), fun h => absurd h (by decide), fun h => absurd h (by decide), fun h => absurd h (by decide)⟩
                case op0 =>
                  rintro bb _ w' ⟨x98, x99, x100, x101, x102, x103, x97, x104, x105, x12, x13, rfl, t0, m1, m2, tB, tc, p98, p99, p100, p101, p102, p103, p97, p104, p105, p12, p13⟩ hb hd K hK
                  simp only [Act.put, List.setIfInBounds_toArray, List.set_cons_zero, List.set_cons_succ]
                  rw [if_pos (by rfl)]
                  refine wp_load_row 29 (.tmp 3) rfl _ rfl _ _ _ _ t0 Try.underlying29 rfl I2.out ?_
                  try simp only [Act.put, List.setIfInBounds_toArray, List.set_cons_zero, List.set_cons_succ]
                  exact hK _ _ ⟨.agg (acs (addL L (X k))), x99, x100, x101, x102, x103, x97, x104, x105, x12, x13, by simp only [Act.put, List.setIfInBounds_toArray, List.set_cons_zero, List.set_cons_succ], t0, m1, m2, tB, tc, fun _ => rfl, fun h => p99 (by simpa [upb] using h), fun h => p100 (by simpa [upb] using h), fun h => p101 (by simpa [upb] using h), fun h => p102 (by simpa [upb] using h), fun h => p103 (by simpa [upb] using h), fun h => p97 (by simpa [upb] using h), fun h => p104 (by simpa [upb] using h), fun h => p105 (by simpa [upb] using h), fun h => p12 (by simpa [upb] using h), fun h => p13 (by simpa [upb] using h)⟩
                case op1 =>
                  rintro bb _ w' ⟨x98, x99, x100, x101, x102, x103, x97, x104, x105, x12, x13, rfl, t0, m1, m2, tB, tc, p98, p99, p100, p101, p102, p103, p97, p104, p105, p12, p13⟩ hb hd K hK
                  simp only [Act.put, List.setIfInBounds_toArray, List.set_cons_zero, List.set_cons_succ]
                  rw [if_pos (by rfl)]
                  go_simp
                  exact hK _ _ ⟨x98, .slice (some ad6) Y.length c6, x100, x101, x102, x103, x97, x104, x105, x12, x13, by simp only [Act.put, List.setIfInBounds_toArray, List.set_cons_zero, List.set_cons_succ], t0, m1, m2, tB, tc, fun h => p98 (by simpa [upb] using h), fun _ => rfl, fun h => p100 (by simpa [upb] using h), fun h => p101 (by simpa [upb] using h), fun h => p102 (by simpa [upb] using h), fun h => p103 (by simpa [upb] using h), fun h => p97 (by simpa [upb] using h), fun h => p104 (by simpa [upb] using h), fun h => p105 (by simpa [upb] using h), fun h => p12 (by simpa [upb] using h), fun h => p13 (by simpa [upb] using h)⟩
                case op2 =>
                  rintro bb _ w' ⟨x98, x99, x100, x101, x102, x103, x97, x104, x105, x12, x13, rfl, t0, m1, m2, tB, tc, p98, p99, p100, p101, p102, p103, p97, p104, p105, p12, p13⟩ hb hd K hK
                  simp only [Act.put, List.setIfInBounds_toArray, List.set_cons_zero, List.set_cons_succ]
                  rw [if_pos (by rfl)]
                  go_simp
                  exact hK _ _ ⟨x98, x99, .int .i64 j, x101, x102, x103, x97, x104, x105, x12, x13, by simp only [Act.put, List.setIfInBounds_toArray, List.set_cons_zero, List.set_cons_succ], t0, m1, m2, tB, tc, fun h => p98 (by simpa [upb] using h), fun h => p99 (by simpa [upb] using h), fun _ => rfl, fun h => p101 (by simpa [upb] using h), fun h => p102 (by simpa [upb] using h), fun h => p103 (by simpa [upb] using h), fun h => p97 (by simpa [upb] using h), fun h => p104 (by simpa [upb] using h), fun h => p105 (by simpa [upb] using h), fun h => p12 (by simpa [upb] using h), fun h => p13 (by simpa [upb] using h)⟩
                case op3 =>
                  rintro bb _ w' ⟨x98, x99, x100, x101, x102, x103, x97, x104, x105, x12, x13, rfl, t0, m1, m2, tB, tc, p98, p99, p100, p101, p102, p103, p97, p104, p105, p12, p13⟩ hb hd K hK
                  simp only [Act.put, List.setIfInBounds_toArray, List.set_cons_zero, List.set_cons_succ]
                  obtain rfl := p99 (hd 1 (by decide))
                  obtain rfl := p100 (hd 2 (by decide))
                  rw [if_pos (by rfl)]
                  go_simp
                  exact hK _ _ ⟨x98, .slice (some ad6) Y.length c6, .int .i64 j, .pointer (some (ad6.add j)), x102, x103, x97, x104, x105, x12, x13, by simp only [Act.put, List.setIfInBounds_toArray, List.set_cons_zero, List.set_cons_succ], t0, m1, m2, tB, tc, fun h => p98 (by simpa [upb] using h), fun _ => rfl, fun _ => rfl, fun _ => rfl, fun h => p102 (by simpa [upb] using h), fun h => p103 (by simpa [upb] using h), fun h => p97 (by simpa [upb] using h), fun h => p104 (by simpa [upb] using h), fun h => p105 (by simpa [upb] using h), fun h => p12 (by simpa [upb] using h), fun h => p13 (by simpa [upb] using h)⟩
                case op4 =>
                  rintro bb _ w' ⟨x98, x99, x100, x101, x102, x103, x97, x104, x105, x12, x13, rfl, t0, m1, m2, tB, tc, p98, p99, p100, p101, p102, p103, p97, p104, p105, p12, p13⟩ hb hd K hK
                  simp only [Act.put, List.setIfInBounds_toArray, List.set_cons_zero, List.set_cons_succ]
                  obtain rfl := p101 (hd 3 (by decide))
                  rw [if_pos (by rfl)]
                  go_simp
                  exact hK _ _ ⟨x98, x99, x100, .pointer (some (ad6.add j)), .int .u16 kk, x103, x97, x104, x105, x12, x13, by simp only [Act.put, List.setIfInBounds_toArray, List.set_cons_zero, List.set_cons_succ], t0, m1, m2, tB, tc, fun h => p98 (by simpa [upb] using h), fun h => p99 (by simpa [upb] using h), fun h => p100 (by simpa [upb] using h), fun _ => rfl, fun _ => rfl, fun h => p103 (by simpa [upb] using h), fun h => p97 (by simpa [upb] using h), fun h => p104 (by simpa [upb] using h), fun h => p105 (by simpa [upb] using h), fun h => p12 (by simpa [upb] using h), fun h => p13 (by simpa [upb] using h)⟩
                case op5 =>
                  rintro bb _ w' ⟨x98, x99, x100, x101, x102, x103, x97, x104, x105, x12, x13, rfl, t0, m1, m2, tB, tc, p98, p99, p100, p101, p102, p103, p97, p104, p105, p12, p13⟩ hb hd K hK
                  simp only [Act.put, List.setIfInBounds_toArray, List.set_cons_zero, List.set_cons_succ]
                  obtain rfl := p98 (hd 0 (by decide))
                  obtain rfl := p102 (hd 4 (by decide))
                  rw [if_pos (by rfl)]
                  go_simp
                  refine (hgt.out _).mono ?_; rintro e w4 ⟨rfl, hbel⟩
                  try dsimp only
                  exact hK _ _ ⟨.agg (acs (addL L (X k))), x99, x100, x101, .int .u16 kk, .tuple #[.int .i64 (sX (addL L (X k)) (kk % 128)), .bool true], x97, x104, x105, x12, x13, by simp only [Act.put, List.setIfInBounds_toArray, List.set_cons_zero, List.set_cons_succ], t0.next hbel, m1.next hbel, m2.next hbel, bnext tB (Nat.le_refl _) hbel, cell_next hbel tc, fun _ => rfl, fun h => p99 (by simpa [upb] using h), fun h => p100 (by simpa [upb] using h), fun h => p101 (by simpa [upb] using h), fun _ => rfl, fun _ => rfl, fun h => p97 (by simpa [upb] using h), fun h => p104 (by simpa [upb] using h), fun h => p105 (by simpa [upb] using h), fun h => p12 (by simpa [upb] using h), fun h => p13 (by simpa [upb] using h)⟩
                case op6 =>
                  rintro bb _ w' ⟨x98, x99, x100, x101, x102, x103, x97, x104, x105, x12, x13, rfl, t0, m1, m2, tB, tc, p98, p99, p100, p101, p102, p103, p97, p104, p105, p12, p13⟩ hb hd K hK
                  simp only [Act.put, List.setIfInBounds_toArray, List.set_cons_zero, List.set_cons_succ]
                  obtain rfl := p103 (hd 5 (by decide))
                  rw [if_pos (by rfl)]
                  go_simp
                  exact hK _ _ ⟨x98, x99, x100, x101, x102, .tuple #[.int .i64 (sX (addL L (X k)) (kk % 128)), .bool true], .tuple #[.int .i64 (sX (addL L (X k)) (kk % 128)), .bool true], x104, x105, x12, x13, by simp only [Act.put, List.setIfInBounds_toArray, List.set_cons_zero, List.set_cons_succ], t0, m1, m2, tB, tc, fun h => p98 (by simpa [upb] using h), fun h => p99 (by simpa [upb] using h), fun h => p100 (by simpa [upb] using h), fun h => p101 (by simpa [upb] using h), fun h => p102 (by simpa [upb] using h), fun _ => rfl, fun _ => rfl, fun h => p104 (by simpa [upb] using h), fun h => p105 (by simpa [upb] using h), fun h => p12 (by simpa [upb] using h), fun h => p13 (by simpa [upb] using h)⟩
                case op7 =>
                  rintro bb _ w' ⟨x98, x99, x100, x101, x102, x103, x97, x104, x105, x12, x13, rfl, t0, m1, m2, tB, tc, p98, p99, p100, p101, p102, p103, p97, p104, p105, p12, p13⟩ hb hd K hK
                  simp only [Act.put, List.setIfInBounds_toArray, List.set_cons_zero, List.set_cons_succ]
                  obtain rfl := p97 (hd 6 (by decide))
                  rw [if_pos (by rfl)]
                  go_simp
                  exact hK _ _ ⟨x98, x99, x100, x101, x102, x103, .tuple #[.int .i64 (sX (addL L (X k)) (kk % 128)), .bool true], .int .i64 (sX (addL L (X k)) (kk % 128)), x105, x12, x13, by simp only [Act.put, List.setIfInBounds_toArray, List.set_cons_zero, List.set_cons_succ], t0, m1, m2, tB, tc, fun h => p98 (by simpa [upb] using h), fun h => p99 (by simpa [upb] using h), fun h => p100 (by simpa [upb] using h), fun h => p101 (by simpa [upb] using h), fun h => p102 (by simpa [upb] using h), fun h => p103 (by simpa [upb] using h), fun _ => rfl, fun _ => rfl, fun h => p105 (by simpa [upb] using h), fun h => p12 (by simpa [upb] using h), fun h => p13 (by simpa [upb] using h)⟩
                case op8 =>
                  rintro bb _ w' ⟨x98, x99, x100, x101, x102, x103, x97, x104, x105, x12, x13, rfl, t0, m1, m2, tB, tc, p98, p99, p100, p101, p102, p103, p97, p104, p105, p12, p13⟩ hb hd K hK
                  simp only [Act.put, List.setIfInBounds_toArray, List.set_cons_zero, List.set_cons_succ]
                  obtain rfl := p97 (hd 6 (by decide))
                  rw [if_pos (by rfl)]
                  go_simp
                  exact hK _ _ ⟨x98, x99, x100, x101, x102, x103, .tuple #[.int .i64 (sX (addL L (X k)) (kk % 128)), .bool true], x104, .bool true, x12, x13, by simp only [Act.put, List.setIfInBounds_toArray, List.set_cons_zero, List.set_cons_succ], t0, m1, m2, tB, tc, fun h => p98 (by simpa [upb] using h), fun h => p99 (by simpa [upb] using h), fun h => p100 (by simpa [upb] using h), fun h => p101 (by simpa [upb] using h), fun h => p102 (by simpa [upb] using h), fun h => p103 (by simpa [upb] using h), fun _ => rfl, fun h => p104 (by simpa [upb] using h), fun _ => rfl, fun h => p12 (by simpa [upb] using h), fun h => p13 (by simpa [upb] using h)⟩
                case op9 =>
                  rintro bb _ w' ⟨x98, x99, x100, x101, x102, x103, x97, x104, x105, x12, x13, rfl, t0, m1, m2, tB, tc, p98, p99, p100, p101, p102, p103, p97, p104, p105, p12, p13⟩ hb hd K hK
                  simp only [Act.put, List.setIfInBounds_toArray, List.set_cons_zero, List.set_cons_succ]
                  obtain rfl := p104 (hd 7 (by decide))
                  rw [if_pos (by rfl)]
                  go_simp
                  exact hK _ _ ⟨x98, x99, x100, x101, x102, x103, x97, .int .i64 (sX (addL L (X k)) (kk % 128)), x105, .int .i64 (sX (addL L (X k)) (kk % 128)), x13, by simp only [Act.put, List.setIfInBounds_toArray, List.set_cons_zero, List.set_cons_succ], t0, m1, m2, tB, tc, fun h => p98 (by simpa [upb] using h), fun h => p99 (by simpa [upb] using h), fun h => p100 (by simpa [upb] using h), fun h => p101 (by simpa [upb] using h), fun h => p102 (by simpa [upb] using h), fun h => p103 (by simpa [upb] using h), fun h => p97 (by simpa [upb] using h), fun _ => rfl, fun h => p105 (by simpa [upb] using h), fun _ => rfl, fun h => p13 (by simpa [upb] using h)⟩
                case op10 =>
                  rintro bb _ w' ⟨x98, x99, x100, x101, x102, x103, x97, x104, x105, x12, x13, rfl, t0, m1, m2, tB, tc, p98, p99, p100, p101, p102, p103, p97, p104, p105, p12, p13⟩ hb hd K hK
                  simp only [Act.put, List.setIfInBounds_toArray, List.set_cons_zero, List.set_cons_succ]
                  obtain rfl := p105 (hd 8 (by decide))
                  rw [if_pos (by rfl)]
                  go_simp
                  exact hK _ _ ⟨x98, x99, x100, x101, x102, x103, x97, x104, .bool true, x12, .bool true, by simp only [Act.put, List.setIfInBounds_toArray, List.set_cons_zero, List.set_cons_succ], t0, m1, m2, tB, tc, fun h => p98 (by simpa [upb] using h), fun h => p99 (by simpa [upb] using h), fun h => p100 (by simpa [upb] using h), fun h => p101 (by simpa [upb] using h), fun h => p102 (by simpa [upb] using h), fun h => p103 (by simpa [upb] using h), fun h => p97 (by simpa [upb] using h), fun h => p104 (by simpa [upb] using h), fun _ => rfl, fun h => p12 (by simpa [upb] using h), fun _ => rfl⟩
                case done =>
                  rintro bb _ w' hb ⟨x98, x99, x100, x101, x102, x103, x97, x104, x105, x12, x13, rfl, t0, m1, m2, tB, tc, p98, p99, p100, p101, p102, p103, p97, p104, p105, p12, p13⟩
                  obtain rfl := p98 (hb 0 (by decide))
                  obtain rfl := p99 (hb 1 (by decide))
                  obtain rfl := p100 (hb 2 (by decide))
                  obtain rfl := p101 (hb 3 (by decide))
                  obtain rfl := p102 (hb 4 (by decide))
                  obtain rfl := p103 (hb 5 (by decide))
                  obtain rfl := p97 (hb 6 (by decide))
                  obtain rfl := p104 (hb 7 (by decide))
                  obtain rfl := p105 (hb 8 (by decide))
                  obtain rfl := p12 (hb 9 (by decide))
                  obtain rfl := p13 (hb 10 (by decide))
                  simp only [Act.put, List.setIfInBounds_toArray, List.set_cons_zero, List.set_cons_succ]
                  have hlk := map_lookup31 m2 (kk : Int)
                  rw [← hyk, hget, hyk] at hlk
                  simp only [Option.getD_some, Option.isSome_some] at hlk
                  have tB := Lib.hid tB
                  clear t0 m1 m2
                  go_wp2_with fail
                  exact ⟨⟨j + 1, by go_num, by omega, tB.out⟩, by simp [intOf]; omega⟩
              · obtain rfl : j = Y.length := by omega
                have TB := Lib.hid (bnext UB.out (Nat.le_refl _) jB)
                go_wp2_with fail
                exact ⟨⟨k + 1, _, _, _, by go_num, by omega, INV.out, T0.out, T1.out, T2.out, TB.out⟩, by simp [intOf]; omega⟩
        | none =>
          have HF := Lib.hid (show I.length = 128 from hI.full (by omega) hf)
          have HC := Lib.hid (fun W => (show Calls Try.prog 11 #[.agg (acs L), .int .i64 (X k)] W fun e w' => e = .returned (.tuple #[.agg (acs (L)), .int .u16 (addId L), .bool false]) ∧ Below W.heap.size W w' by
            have h := add_any L (X k) hI.len W
            rw [hf, show addL L (X k) = L by unfold addL; rw [hf]] at h
            exact h))
          have I0 := Lib.hid (info29 L hI.len)
          have INV := Lib.hid (hI.more)
          have I1 := Lib.hid (info29 (L) INV.out.len)
          have J1 := Lib.hid (show (acs L).size = (acs (L)).size by first | rfl | rw [acs_size, acs_size, hI.len, INV.out.len])
          have HS := Lib.hid (fun W => ids_any (L) INV.out.len W)
          have Q0d := Lib.hid (show Lies wr.drew w.heap.size L from Q0)
          have Q1d := Lib.hid (show IsMap wr.drew (w.heap.size + 1) G from Q1)
          have Q2d := Lib.hid (show IsMap wr.drew (w.heap.size + 1 + 1) I from Q2)
          have QBd := Lib.hid (QB.drew)
          have hax := Lib.hid (show w.cell? ⟨(a.add (k * 3)).block, (a.add (k * 3)).off + 2, none⟩ = some (.int .i64 (X k)) by
            have := HA.out.x k a h rfl
            rw [add_field a (k * 3) 2 (by omega)] at this
            exact this)
          have HI := Lib.hid hI
          have hd0 : (D k == 0) = false := by simpa using hd
          clear Q0 Q1 Q2 QB hI HR ai ax ai2 ax2
          go_wp2_with fail
          refine wp_region_inv (fun a0 w0 b a' w' => ∃ x48 x49 x50 x51 x52 x53 x54 x47 x55 x56 x57 x7 x8 x9 : Value, a' = ((((((((((((((a0.put (some 48) x48).put (some 49) x49).put (some 50) x50).put (some 51) x51).put (some 52) x52).put (some 53) x53).put (some 54) x54).put (some 47) x47).put (some 55) x55).put (some 56) x56).put (some 57) x57).put (some 7) x7).put (some 8) x8).put (some 9) x9) ∧ Lies w' w.heap.size L ∧ IsMap w' (w.heap.size + 1) G ∧ IsMap w' (w.heap.size + 1 + 1) I ∧ Below w.heap.size w w' ∧ (b 12 = true → b 11 = true) ∧ (b 11 = true → ∃ g R, x7 = .pointer (some ⟨g, 0, none⟩) ∧ w.heap.size + 1 + 1 < g ∧ Lies w' g R ∧ R.length = 128 ∧ (b 12 = true → R = L)) ∧ (b 0 = true → x48 = .agg (acs L)) ∧ (b 1 = true → x49 = .slice (some a) len cap) ∧ (b 2 = true → x50 = .int .i64 k) ∧ (b 3 = true → x51 = .pointer (some (a.add (k * 3)))) ∧ (b 4 = true → x52 = .pointer (some ⟨(a.add (k * 3)).block, (a.add (k * 3)).off + 2, none⟩)) ∧ (b 5 = true → x53 = .int .i64 (X k)) ∧ (b 6 = true → x54 = .tuple #[.agg (acs (L)), .int .u16 (addId L), .bool false]) ∧ (b 7 = true → x47 = .tuple #[.agg (acs (L)), .int .u16 (addId L), .bool false]) ∧ (b 8 = true → x55 = .agg (acs (L))) ∧ (b 9 = true → x56 = .int .u16 (addId L)) ∧ (b 10 = true → x57 = .bool false) ∧ (b 13 = true → x8 = .int .u16 (addId L)) ∧ (b 14 = true → x9 = .bool false)) (by kernel_rfl) (by kernel_rfl) ?start ⟨?op0, ?op1, ?op2, ?op3, ?op4, ?op5, ?op6, ?op7, ?op8, ?op9, ?op10, ?op11, ?op12, ?op13, ?op14, trivial⟩ ?done
          case start => exact ⟨_, _, _, _, _, _, _, _, _, _, _, _, _, _, by simp only [Act.put, List.setIfInBounds_toArray, List.set_cons_zero, List.set_cons_succ]; rfl, Q0d.out, Q1d.out, Q2d.out, QBd.out, fun h => absurd h (by decide), fun h => absurd h (by decide), fun h => absurd h (by decide), fun h => absurd h (by decide), fun h => absurd h (by decide), fun h => absurd h (by decide), fun h => absurd h (by decide), fun h => absurd h (by decide), fun h => absurd h (by decide), fun h => absurd h (by decide), fun h => absurd h (by decide), fun h => absurd h (by decide), fun h => absurd h (by decide), fun h => absurd h (by decide), fun h => absurd h (by decide)⟩
          case op0 =>
            rintro bb _ w' ⟨x48, x49, x50, x51, x52, x53, x54, x47, x55, x56, x57, x7, x8, x9, rfl, t0, m1, m2, tB, tO, tP, p48, p49, p50, p51, p52, p53, p54, p47, p55, p56, p57, p8, p9⟩ hb hd K hK
            simp only [Act.put, List.setIfInBounds_toArray, List.set_cons_zero, List.set_cons_succ]
            rw [if_pos (by rfl)]
            refine wp_load_row 29 (.tmp 3) rfl _ rfl _ _ _ _ t0 Try.underlying29 rfl I0.out ?_
            try simp only [Act.put, List.setIfInBounds_toArray, List.set_cons_zero, List.set_cons_succ]
            exact hK _ _ ⟨.agg (acs L), x49, x50, x51, x52, x53, x54, x47, x55, x56, x57, x7, x8, x9, by simp only [Act.put, List.setIfInBounds_toArray, List.set_cons_zero, List.set_cons_succ], t0, m1, m2, tB, fun h => by have := tO (by simpa [upb] using h); simpa [upb] using this, fun h => (by obtain ⟨g, R, e, hg, hl, hr, ht⟩ := tP (by simpa [upb] using h); exact ⟨g, R, e, hg, hl, hr, fun h => ht (by simpa [upb] using h)⟩), fun _ => rfl, fun h => p49 (by simpa [upb] using h), fun h => p50 (by simpa [upb] using h), fun h => p51 (by simpa [upb] using h), fun h => p52 (by simpa [upb] using h), fun h => p53 (by simpa [upb] using h), fun h => p54 (by simpa [upb] using h), fun h => p47 (by simpa [upb] using h), fun h => p55 (by simpa [upb] using h), fun h => p56 (by simpa [upb] using h), fun h => p57 (by simpa [upb] using h), fun h => p8 (by simpa [upb] using h), fun h => p9 (by simpa [upb] using h)⟩
          case op1 =>
            rintro bb _ w' ⟨x48, x49, x50, x51, x52, x53, x54, x47, x55, x56, x57, x7, x8, x9, rfl, t0, m1, m2, tB, tO, tP, p48, p49, p50, p51, p52, p53, p54, p47, p55, p56, p57, p8, p9⟩ hb hd K hK
            simp only [Act.put, List.setIfInBounds_toArray, List.set_cons_zero, List.set_cons_succ]
            rw [if_pos (by rfl)]
            go_simp
            exact hK _ _ ⟨x48, .slice (some a) len cap, x50, x51, x52, x53, x54, x47, x55, x56, x57, x7, x8, x9, by simp only [Act.put, List.setIfInBounds_toArray, List.set_cons_zero, List.set_cons_succ], t0, m1, m2, tB, fun h => by have := tO (by simpa [upb] using h); simpa [upb] using this, fun h => (by obtain ⟨g, R, e, hg, hl, hr, ht⟩ := tP (by simpa [upb] using h); exact ⟨g, R, e, hg, hl, hr, fun h => ht (by simpa [upb] using h)⟩), fun h => p48 (by simpa [upb] using h), fun _ => rfl, fun h => p50 (by simpa [upb] using h), fun h => p51 (by simpa [upb] using h), fun h => p52 (by simpa [upb] using h), fun h => p53 (by simpa [upb] using h), fun h => p54 (by simpa [upb] using h), fun h => p47 (by simpa [upb] using h), fun h => p55 (by simpa [upb] using h), fun h => p56 (by simpa [upb] using h), fun h => p57 (by simpa [upb] using h), fun h => p8 (by simpa [upb] using h), fun h => p9 (by simpa [upb] using h)⟩
          case op2 =>
            rintro bb _ w' ⟨x48, x49, x50, x51, x52, x53, x54, x47, x55, x56, x57, x7, x8, x9, rfl, t0, m1, m2, tB, tO, tP, p48, p49, p50, p51, p52, p53, p54, p47, p55, p56, p57, p8, p9⟩ hb hd K hK
            simp only [Act.put, List.setIfInBounds_toArray, List.set_cons_zero, List.set_cons_succ]
            rw [if_pos (by rfl)]
            go_simp
            exact hK _ _ ⟨x48, x49, .int .i64 k, x51, x52, x53, x54, x47, x55, x56, x57, x7, x8, x9, by simp only [Act.put, List.setIfInBounds_toArray, List.set_cons_zero, List.set_cons_succ], t0, m1, m2, tB, fun h => by have := tO (by simpa [upb] using h); simpa [upb] using this, fun h => (by obtain ⟨g, R, e, hg, hl, hr, ht⟩ := tP (by simpa [upb] using h); exact ⟨g, R, e, hg, hl, hr, fun h => ht (by simpa [upb] using h)⟩), fun h => p48 (by simpa [upb] using h), fun h => p49 (by simpa [upb] using h), fun _ => rfl, fun h => p51 (by simpa [upb] using h), fun h => p52 (by simpa [upb] using h), fun h => p53 (by simpa [upb] using h), fun h => p54 (by simpa [upb] using h), fun h => p47 (by simpa [upb] using h), fun h => p55 (by simpa [upb] using h), fun h => p56 (by simpa [upb] using h), fun h => p57 (by simpa [upb] using h), fun h => p8 (by simpa [upb] using h), fun h => p9 (by simpa [upb] using h)⟩
          case op3 =>
            rintro bb _ w' ⟨x48, x49, x50, x51, x52, x53, x54, x47, x55, x56, x57, x7, x8, x9, rfl, t0, m1, m2, tB, tO, tP, p48, p49, p50, p51, p52, p53, p54, p47, p55, p56, p57, p8, p9⟩ hb hd K hK
            simp only [Act.put, List.setIfInBounds_toArray, List.set_cons_zero, List.set_cons_succ]
            obtain rfl := p49 (hd 1 (by decide))
            obtain rfl := p50 (hd 2 (by decide))
            rw [if_pos (by rfl)]
            go_simp
            exact hK _ _ ⟨x48, .slice (some a) len cap, .int .i64 k, .pointer (some (a.add (k * 3))), x52, x53, x54, x47, x55, x56, x57, x7, x8, x9, by simp only [Act.put, List.setIfInBounds_toArray, List.set_cons_zero, List.set_cons_succ], t0, m1, m2, tB, fun h => by have := tO (by simpa [upb] using h); simpa [upb] using this, fun h => (by obtain ⟨g, R, e, hg, hl, hr, ht⟩ := tP (by simpa [upb] using h); exact ⟨g, R, e, hg, hl, hr, fun h => ht (by simpa [upb] using h)⟩), fun h => p48 (by simpa [upb] using h), fun _ => rfl, fun _ => rfl, fun _ => rfl, fun h => p52 (by simpa [upb] using h), fun h => p53 (by simpa [upb] using h), fun h => p54 (by simpa [upb] using h), fun h => p47 (by simpa [upb] using h), fun h => p55 (by simpa [upb] using h), fun h => p56 (by simpa [upb] using h), fun h => p57 (by simpa [upb] using h), fun h => p8 (by simpa [upb] using h), fun h => p9 (by simpa [upb] using h)⟩
          case op4 =>
            rintro bb _ w' ⟨x48, x49, x50, x51, x52, x53, x54, x47, x55, x56, x57, x7, x8, x9, rfl, t0, m1, m2, tB, tO, tP, p48, p49, p50, p51, p52, p53, p54, p47, p55, p56, p57, p8, p9⟩ hb hd K hK
            simp only [Act.put, List.setIfInBounds_toArray, List.set_cons_zero, List.set_cons_succ]
            obtain rfl := p51 (hd 3 (by decide))
            rw [if_pos (by rfl)]
            go_simp
            exact hK _ _ ⟨x48, x49, x50, .pointer (some (a.add (k * 3))), .pointer (some ⟨(a.add (k * 3)).block, (a.add (k * 3)).off + 2, none⟩), x53, x54, x47, x55, x56, x57, x7, x8, x9, by simp only [Act.put, List.setIfInBounds_toArray, List.set_cons_zero, List.set_cons_succ], t0, m1, m2, tB, fun h => by have := tO (by simpa [upb] using h); simpa [upb] using this, fun h => (by obtain ⟨g, R, e, hg, hl, hr, ht⟩ := tP (by simpa [upb] using h); exact ⟨g, R, e, hg, hl, hr, fun h => ht (by simpa [upb] using h)⟩), fun h => p48 (by simpa [upb] using h), fun h => p49 (by simpa [upb] using h), fun h => p50 (by simpa [upb] using h), fun _ => rfl, fun _ => rfl, fun h => p53 (by simpa [upb] using h), fun h => p54 (by simpa [upb] using h), fun h => p47 (by simpa [upb] using h), fun h => p55 (by simpa [upb] using h), fun h => p56 (by simpa [upb] using h), fun h => p57 (by simpa [upb] using h), fun h => p8 (by simpa [upb] using h), fun h => p9 (by simpa [upb] using h)⟩
          case op5 =>
            rintro bb _ w' ⟨x48, x49, x50, x51, x52, x53, x54, x47, x55, x56, x57, x7, x8, x9, rfl, t0, m1, m2, tB, tO, tP, p48, p49, p50, p51, p52, p53, p54, p47, p55, p56, p57, p8, p9⟩ hb hd K hK
            simp only [Act.put, List.setIfInBounds_toArray, List.set_cons_zero, List.set_cons_succ]
            obtain rfl := p52 (hd 4 (by decide))
            rw [if_pos (by rfl)]
            have tc := cell_next tB hax.out
            go_simp
            exact hK _ _ ⟨x48, x49, x50, x51, .pointer (some ⟨(a.add (k * 3)).block, (a.add (k * 3)).off + 2, none⟩), .int .i64 (X k), x54, x47, x55, x56, x57, x7, x8, x9, by simp only [Act.put, List.setIfInBounds_toArray, List.set_cons_zero, List.set_cons_succ], t0, m1, m2, tB, fun h => by have := tO (by simpa [upb] using h); simpa [upb] using this, fun h => (by obtain ⟨g, R, e, hg, hl, hr, ht⟩ := tP (by simpa [upb] using h); exact ⟨g, R, e, hg, hl, hr, fun h => ht (by simpa [upb] using h)⟩), fun h => p48 (by simpa [upb] using h), fun h => p49 (by simpa [upb] using h), fun h => p50 (by simpa [upb] using h), fun h => p51 (by simpa [upb] using h), fun _ => rfl, fun _ => rfl, fun h => p54 (by simpa [upb] using h), fun h => p47 (by simpa [upb] using h), fun h => p55 (by simpa [upb] using h), fun h => p56 (by simpa [upb] using h), fun h => p57 (by simpa [upb] using h), fun h => p8 (by simpa [upb] using h), fun h => p9 (by simpa [upb] using h)⟩
          case op6 =>
            rintro bb _ w' ⟨x48, x49, x50, x51, x52, x53, x54, x47, x55, x56, x57, x7, x8, x9, rfl, t0, m1, m2, tB, tO, tP, p48, p49, p50, p51, p52, p53, p54, p47, p55, p56, p57, p8, p9⟩ hb hd K hK
            simp only [Act.put, List.setIfInBounds_toArray, List.set_cons_zero, List.set_cons_succ]
            obtain rfl := p48 (hd 0 (by decide))
            obtain rfl := p53 (hd 5 (by decide))
            rw [if_pos (by rfl)]
            go_simp
            refine (HC.out _).mono ?_; rintro e w4 ⟨rfl, hbel⟩
            try dsimp only
            exact hK _ _ ⟨.agg (acs L), x49, x50, x51, x52, .int .i64 (X k), .tuple #[.agg (acs (L)), .int .u16 (addId L), .bool false], x47, x55, x56, x57, x7, x8, x9, by simp only [Act.put, List.setIfInBounds_toArray, List.set_cons_zero, List.set_cons_succ], t0.next hbel, m1.next hbel, m2.next hbel, bnext tB (Nat.le_refl _) hbel, fun h => by have := tO (by simpa [upb] using h); simpa [upb] using this, fun h => (by obtain ⟨g, R, e, hg, hl, hr, ht⟩ := tP (by simpa [upb] using h); exact ⟨g, R, e, hg, hl.next hbel, hr, fun h => ht (by simpa [upb] using h)⟩), fun _ => rfl, fun h => p49 (by simpa [upb] using h), fun h => p50 (by simpa [upb] using h), fun h => p51 (by simpa [upb] using h), fun h => p52 (by simpa [upb] using h), fun _ => rfl, fun _ => rfl, fun h => p47 (by simpa [upb] using h), fun h => p55 (by simpa [upb] using h), fun h => p56 (by simpa [upb] using h), fun h => p57 (by simpa [upb] using h), fun h => p8 (by simpa [upb] using h), fun h => p9 (by simpa [upb] using h)⟩
          case op7 =>
            rintro bb _ w' ⟨x48, x49, x50, x51, x52, x53, x54, x47, x55, x56, x57, x7, x8, x9, rfl, t0, m1, m2, tB, tO, tP, p48, p49, p50, p51, p52, p53, p54, p47, p55, p56, p57, p8, p9⟩ hb hd K hK
            simp only [Act.put, List.setIfInBounds_toArray, List.set_cons_zero, List.set_cons_succ]
            obtain rfl := p54 (hd 6 (by decide))
            rw [if_pos (by rfl)]
            go_simp
            exact hK _ _ ⟨x48, x49, x50, x51, x52, x53, .tuple #[.agg (acs (L)), .int .u16 (addId L), .bool false], .tuple #[.agg (acs (L)), .int .u16 (addId L), .bool false], x55, x56, x57, x7, x8, x9, by simp only [Act.put, List.setIfInBounds_toArray, List.set_cons_zero, List.set_cons_succ], t0, m1, m2, tB, fun h => by have := tO (by simpa [upb] using h); simpa [upb] using this, fun h => (by obtain ⟨g, R, e, hg, hl, hr, ht⟩ := tP (by simpa [upb] using h); exact ⟨g, R, e, hg, hl, hr, fun h => ht (by simpa [upb] using h)⟩), fun h => p48 (by simpa [upb] using h), fun h => p49 (by simpa [upb] using h), fun h => p50 (by simpa [upb] using h), fun h => p51 (by simpa [upb] using h), fun h => p52 (by simpa [upb] using h), fun h => p53 (by simpa [upb] using h), fun _ => rfl, fun _ => rfl, fun h => p55 (by simpa [upb] using h), fun h => p56 (by simpa [upb] using h), fun h => p57 (by simpa [upb] using h), fun h => p8 (by simpa [upb] using h), fun h => p9 (by simpa [upb] using h)⟩
          case op8 =>
            rintro bb _ w' ⟨x48, x49, x50, x51, x52, x53, x54, x47, x55, x56, x57, x7, x8, x9, rfl, t0, m1, m2, tB, tO, tP, p48, p49, p50, p51, p52, p53, p54, p47, p55, p56, p57, p8, p9⟩ hb hd K hK
            simp only [Act.put, List.setIfInBounds_toArray, List.set_cons_zero, List.set_cons_succ]
            obtain rfl := p47 (hd 7 (by decide))
            rw [if_pos (by rfl)]
            go_simp
            exact hK _ _ ⟨x48, x49, x50, x51, x52, x53, x54, .tuple #[.agg (acs (L)), .int .u16 (addId L), .bool false], .agg (acs (L)), x56, x57, x7, x8, x9, by simp only [Act.put, List.setIfInBounds_toArray, List.set_cons_zero, List.set_cons_succ], t0, m1, m2, tB, fun h => by have := tO (by simpa [upb] using h); simpa [upb] using this, fun h => (by obtain ⟨g, R, e, hg, hl, hr, ht⟩ := tP (by simpa [upb] using h); exact ⟨g, R, e, hg, hl, hr, fun h => ht (by simpa [upb] using h)⟩), fun h => p48 (by simpa [upb] using h), fun h => p49 (by simpa [upb] using h), fun h => p50 (by simpa [upb] using h), fun h => p51 (by simpa [upb] using h), fun h => p52 (by simpa [upb] using h), fun h => p53 (by simpa [upb] using h), fun h => p54 (by simpa [upb] using h), fun _ => rfl, fun _ => rfl, fun h => p56 (by simpa [upb] using h), fun h => p57 (by simpa [upb] using h), fun h => p8 (by simpa [upb] using h), fun h => p9 (by simpa [upb] using h)⟩
          case op9 =>
            rintro bb _ w' ⟨x48, x49, x50, x51, x52, x53, x54, x47, x55, x56, x57, x7, x8, x9, rfl, t0, m1, m2, tB, tO, tP, p48, p49, p50, p51, p52, p53, p54, p47, p55, p56, p57, p8, p9⟩ hb hd K hK
            simp only [Act.put, List.setIfInBounds_toArray, List.set_cons_zero, List.set_cons_succ]
            obtain rfl := p47 (hd 7 (by decide))
            rw [if_pos (by rfl)]
            go_simp
            exact hK _ _ ⟨x48, x49, x50, x51, x52, x53, x54, .tuple #[.agg (acs (L)), .int .u16 (addId L), .bool false], x55, .int .u16 (addId L), x57, x7, x8, x9, by simp only [Act.put, List.setIfInBounds_toArray, List.set_cons_zero, List.set_cons_succ], t0, m1, m2, tB, fun h => by have := tO (by simpa [upb] using h); simpa [upb] using this, fun h => (by obtain ⟨g, R, e, hg, hl, hr, ht⟩ := tP (by simpa [upb] using h); exact ⟨g, R, e, hg, hl, hr, fun h => ht (by simpa [upb] using h)⟩), fun h => p48 (by simpa [upb] using h), fun h => p49 (by simpa [upb] using h), fun h => p50 (by simpa [upb] using h), fun h => p51 (by simpa [upb] using h), fun h => p52 (by simpa [upb] using h), fun h => p53 (by simpa [upb] using h), fun h => p54 (by simpa [upb] using h), fun _ => rfl, fun h => p55 (by simpa [upb] using h), fun _ => rfl, fun h => p57 (by simpa [upb] using h), fun h => p8 (by simpa [upb] using h), fun h => p9 (by simpa [upb] using h)⟩
          case op10 =>
            rintro bb _ w' ⟨x48, x49, x50, x51, x52, x53, x54, x47, x55, x56, x57, x7, x8, x9, rfl, t0, m1, m2, tB, tO, tP, p48, p49, p50, p51, p52, p53, p54, p47, p55, p56, p57, p8, p9⟩ hb hd K hK
            simp only [Act.put, List.setIfInBounds_toArray, List.set_cons_zero, List.set_cons_succ]
            obtain rfl := p47 (hd 7 (by decide))
            rw [if_pos (by rfl)]
            go_simp
            exact hK _ _ ⟨x48, x49, x50, x51, x52, x53, x54, .tuple #[.agg (acs (L)), .int .u16 (addId L), .bool false], x55, x56, .bool false, x7, x8, x9, by simp only [Act.put, List.setIfInBounds_toArray, List.set_cons_zero, List.set_cons_succ], t0, m1, m2, tB, fun h => by have := tO (by simpa [upb] using h); simpa [upb] using this, fun h => (by obtain ⟨g, R, e, hg, hl, hr, ht⟩ := tP (by simpa [upb] using h); exact ⟨g, R, e, hg, hl, hr, fun h => ht (by simpa [upb] using h)⟩), fun h => p48 (by simpa [upb] using h), fun h => p49 (by simpa [upb] using h), fun h => p50 (by simpa [upb] using h), fun h => p51 (by simpa [upb] using h), fun h => p52 (by simpa [upb] using h), fun h => p53 (by simpa [upb] using h), fun h => p54 (by simpa [upb] using h), fun _ => rfl, fun h => p55 (by simpa [upb] using h), fun h => p56 (by simpa [upb] using h), fun _ => rfl, fun h => p8 (by simpa [upb] using h), fun h => p9 (by simpa [upb] using h)⟩
          case op11 =>
            rintro bb _ w' ⟨x48, x49, x50, x51, x52, x53, x54, x47, x55, x56, x57, x7, x8, x9, rfl, t0, m1, m2, tB, tO, tP, p48, p49, p50, p51, p52, p53, p54, p47, p55, p56, p57, p8, p9⟩ hb hd K hK
            simp only [Act.put, List.setIfInBounds_toArray, List.set_cons_zero, List.set_cons_succ]
            rw [if_pos (by rfl)]
            have hz := zero29' w'
            go_simp
            exact hK _ _ ⟨x48, x49, x50, x51, x52, x53, x54, x47, x55, x56, x57, (.pointer (some ⟨w'.heap.size, 0, none⟩)), x8, x9, by simp only [Act.put, List.setIfInBounds_toArray, List.set_cons_zero, List.set_cons_succ], lies_past _ _ _ _ t0, m1.next ((Below.refl _ _).alloc (Nat.le_refl _) _), m2.next ((Below.refl _ _).alloc (Nat.le_refl _) _), tB.alloc tB.size _, fun _ => by simp [upb], fun _ => ⟨w'.heap.size, Z0, rfl, m2.lt, lies_new _ _ _ rfl, Z0_len, fun h => (by have h2 := tO (by simpa [upb] using h); rw [hb] at h2; cases h2)⟩, fun h => p48 (by simpa [upb] using h), fun h => p49 (by simpa [upb] using h), fun h => p50 (by simpa [upb] using h), fun h => p51 (by simpa [upb] using h), fun h => p52 (by simpa [upb] using h), fun h => p53 (by simpa [upb] using h), fun h => p54 (by simpa [upb] using h), fun h => p47 (by simpa [upb] using h), fun h => p55 (by simpa [upb] using h), fun h => p56 (by simpa [upb] using h), fun h => p57 (by simpa [upb] using h), fun h => p8 (by simpa [upb] using h), fun h => p9 (by simpa [upb] using h)⟩
          case op12 =>
            rintro bb _ w' ⟨x48, x49, x50, x51, x52, x53, x54, x47, x55, x56, x57, x7, x8, x9, rfl, t0, m1, m2, tB, tO, tP, p48, p49, p50, p51, p52, p53, p54, p47, p55, p56, p57, p8, p9⟩ hb hd K hK
            simp only [Act.put, List.setIfInBounds_toArray, List.set_cons_zero, List.set_cons_succ]
            obtain rfl := p55 (hd 8 (by decide))
            rw [if_pos (by rfl)]
            obtain ⟨g, R, rfl, hg, hl, hr, ht⟩ := tP (hd 11 (by decide))
            refine wp_store_row 29 (.tmp 7) (.tmp 55) rfl _ _ rfl rfl _ _ hl I1.out (by rw [acs_size, acs_size, hr, INV.out.len]) (acs_one _) ?_
            try simp only [Act.put, List.setIfInBounds_toArray, List.set_cons_zero, List.set_cons_succ]
            exact hK _ _ ⟨x48, x49, x50, x51, x52, x53, x54, x47, .agg (acs (L)), x56, x57, (.pointer (some ⟨g, 0, none⟩)), x8, x9, by simp only [Act.put, List.setIfInBounds_toArray, List.set_cons_zero, List.set_cons_succ], t0.row (by omega) _, m1.row (by omega) _, m2.row (by omega) _, below_setRow tB (by omega) _, fun _ => by first | (simp [upb]; done) | (have := hd 11 (by decide); simpa [upb] using this), fun _ => ⟨g, _, rfl, hg, hl.same _, INV.out.len, fun _ => rfl⟩, fun h => p48 (by simpa [upb] using h), fun h => p49 (by simpa [upb] using h), fun h => p50 (by simpa [upb] using h), fun h => p51 (by simpa [upb] using h), fun h => p52 (by simpa [upb] using h), fun h => p53 (by simpa [upb] using h), fun h => p54 (by simpa [upb] using h), fun h => p47 (by simpa [upb] using h), fun _ => rfl, fun h => p56 (by simpa [upb] using h), fun h => p57 (by simpa [upb] using h), fun h => p8 (by simpa [upb] using h), fun h => p9 (by simpa [upb] using h)⟩
          case op13 =>
            rintro bb _ w' ⟨x48, x49, x50, x51, x52, x53, x54, x47, x55, x56, x57, x7, x8, x9, rfl, t0, m1, m2, tB, tO, tP, p48, p49, p50, p51, p52, p53, p54, p47, p55, p56, p57, p8, p9⟩ hb hd K hK
            simp only [Act.put, List.setIfInBounds_toArray, List.set_cons_zero, List.set_cons_succ]
            obtain rfl := p56 (hd 9 (by decide))
            rw [if_pos (by rfl)]
            go_simp
            exact hK _ _ ⟨x48, x49, x50, x51, x52, x53, x54, x47, x55, .int .u16 (addId L), x57, x7, .int .u16 (addId L), x9, by simp only [Act.put, List.setIfInBounds_toArray, List.set_cons_zero, List.set_cons_succ], t0, m1, m2, tB, fun h => by have := tO (by simpa [upb] using h); simpa [upb] using this, fun h => (by obtain ⟨g, R, e, hg, hl, hr, ht⟩ := tP (by simpa [upb] using h); exact ⟨g, R, e, hg, hl, hr, fun h => ht (by simpa [upb] using h)⟩), fun h => p48 (by simpa [upb] using h), fun h => p49 (by simpa [upb] using h), fun h => p50 (by simpa [upb] using h), fun h => p51 (by simpa [upb] using h), fun h => p52 (by simpa [upb] using h), fun h => p53 (by simpa [upb] using h), fun h => p54 (by simpa [upb] using h), fun h => p47 (by simpa [upb] using h), fun h => p55 (by simpa [upb] using h), fun _ => rfl, fun h => p57 (by simpa [upb] using h), fun _ => rfl, fun h => p9 (by simpa [upb] using h)⟩
          case op14 =>
            rintro bb _ w' ⟨x48, x49, x50, x51, x52, x53, x54, x47, x55, x56, x57, x7, x8, x9, rfl, t0, m1, m2, tB, tO, tP, p48, p49, p50, p51, p52, p53, p54, p47, p55, p56, p57, p8, p9⟩ hb hd K hK
            simp only [Act.put, List.setIfInBounds_toArray, List.set_cons_zero, List.set_cons_succ]
            obtain rfl := p57 (hd 10 (by decide))
            rw [if_pos (by rfl)]
            go_simp
            exact hK _ _ ⟨x48, x49, x50, x51, x52, x53, x54, x47, x55, x56, .bool false, x7, x8, .bool false, by simp only [Act.put, List.setIfInBounds_toArray, List.set_cons_zero, List.set_cons_succ], t0, m1, m2, tB, fun h => by have := tO (by simpa [upb] using h); simpa [upb] using this, fun h => (by obtain ⟨g, R, e, hg, hl, hr, ht⟩ := tP (by simpa [upb] using h); exact ⟨g, R, e, hg, hl, hr, fun h => ht (by simpa [upb] using h)⟩), fun h => p48 (by simpa [upb] using h), fun h => p49 (by simpa [upb] using h), fun h => p50 (by simpa [upb] using h), fun h => p51 (by simpa [upb] using h), fun h => p52 (by simpa [upb] using h), fun h => p53 (by simpa [upb] using h), fun h => p54 (by simpa [upb] using h), fun h => p47 (by simpa [upb] using h), fun h => p55 (by simpa [upb] using h), fun h => p56 (by simpa [upb] using h), fun _ => rfl, fun h => p8 (by simpa [upb] using h), fun _ => rfl⟩
          case done =>
            rintro bb _ w' hb ⟨x48, x49, x50, x51, x52, x53, x54, x47, x55, x56, x57, x7, x8, x9, rfl, t0, m1, m2, tB, tO, tP, p48, p49, p50, p51, p52, p53, p54, p47, p55, p56, p57, p8, p9⟩
            obtain rfl := p48 (hb 0 (by decide))
            obtain rfl := p49 (hb 1 (by decide))
            obtain rfl := p50 (hb 2 (by decide))
            obtain rfl := p51 (hb 3 (by decide))
            obtain rfl := p52 (hb 4 (by decide))
            obtain rfl := p53 (hb 5 (by decide))
            obtain rfl := p54 (hb 6 (by decide))
            obtain rfl := p47 (hb 7 (by decide))
            obtain rfl := p55 (hb 8 (by decide))
            obtain rfl := p56 (hb 9 (by decide))
            obtain rfl := p57 (hb 10 (by decide))
            obtain rfl := p8 (hb 13 (by decide))
            obtain rfl := p9 (hb 14 (by decide))
            simp only [Act.put, List.setIfInBounds_toArray, List.set_cons_zero, List.set_cons_succ]
            obtain ⟨g, R, rfl, hg, hl, hr, ht⟩ := tP (hb 11 (by decide))
            rw [ht (hb 12 (by decide))] at hl
            clear tP tO ht hr
            have V0 := Lib.hid t0
            have V1 := Lib.hid (m1.row (by omega : w.heap.size + 1 ≠ w.heap.size) (acs (L)))
            have V2 := Lib.hid (m2.row (by omega : w.heap.size + 1 + 1 ≠ w.heap.size) (acs (L)))
            have VB := Lib.hid (below_setRow tB (Nat.le_refl _) (acs (L)))
            have V0' := Lib.hid (V0.out.same (L))
            have hlg := Lib.hid hl
            clear t0 m1 m2 tB hl
            have hln2 := map_len 3 V2.out
            rw [HF.out] at hln2
            go_wp2_with (first | (refine wpList_load_row rfl 29 (.tmp 7) rfl _ rfl _ _ _ _ hlg.out Try.underlying29 rfl I1.out ?_) | (refine wpList_store_row rfl 29 (.tmp 3) (.tmp 58) rfl _ _ rfl rfl _ _ V0.out I1.out rfl (acs_one _) ?_) | (refine wpList_load_row rfl 29 (.tmp 3) rfl _ rfl _ _ _ _ V0'.out Try.underlying29 rfl I1.out ?_))
            clear hln2 V0 I1 J1 hlg
            refine (HS.out _).mono ?_; rintro e w6 ⟨v6, rfl, R6, b6⟩
            obtain ⟨B6, c6, rfl, q6, C6⟩ := rd_R R6
            have U0 := Lib.hid (V0'.out.next b6)
            have U1 := Lib.hid (V1.out.next b6)
            have U2 := Lib.hid (V2.out.next b6)
            have UB := Lib.hid (bnext VB.out (Nat.le_refl _) b6)
            have hcnt : (I).length = (idsL (L) 128).length := by rw [ids_cnt]; exact INV.out.cnt
            have hY := Lib.hid (fun y hy => INV.out.each (by omega) y hy)
            have hle := idsL_len (L) 128
            have hln := map_len 3 U2.out
            rw [hcnt] at hln
            obtain ⟨Y, hYe⟩ : ∃ Y, Y = idsL (L) 128 := ⟨_, rfl⟩
            rw [← hYe] at C6 hY hln hle q6 ⊢
            have C6 := Lib.hid C6
            clear hcnt hYe b6 R6 V0' V1 V2 VB
            go_wp2_with fail
            obtain ⟨wa, hwa⟩ : ∃ x, x = w6 := ⟨_, rfl⟩
            go_loopw [11] (fun v wr => ∃ j : Nat, v = .int .i64 j ∧ j ≤ Y.length ∧ Below w6.heap.size w6 wr) (fun v _ => Y.length - (intOf v).toNat)
            case atStart => exact ⟨0, rfl, by omega, Below.refl _ _⟩
            case round =>
              obtain ⟨j, rfl, hj, jB⟩ := hrel
              have T0 := Lib.hid (U0.out.next jB)
              have T1 := Lib.hid (U1.out.next jB)
              have T2 := Lib.hid (U2.out.next jB)
              have TB := Lib.hid (bnext UB.out (Nat.le_refl _) jB)
              by_cases hjl : j < Y.length
              · obtain ⟨kk, hyk, hlt, hhas, hget⟩ := hY.out Y[j] (List.getElem_mem hjl)
                have hcell : ∃ ad, B6 = some ad ∧ wr.cell? (ad.add j) = some (.int .u16 (kk : Int)) := by
                  obtain ⟨_, _, hrd⟩ := Kd.C_below C6.out jB
                  obtain ⟨ad, had, hc⟩ := hrd (by omega)
                  refine ⟨ad, had, ?_⟩
                  obtain ⟨cs, hk1, hk2, hk3⟩ := hc j Y[j] (List.getElem?_eq_getElem hjl)
                  have hcs : cs = [.int .u16 Y[j]] := hk2
                  have := hk3 0 _ (by rw [hcs]; rfl)
                  rw [hyk, show j * (Kd.int .u16).sz + 0 = j by show j * 1 + 0 = j; omega] at this
                  exact this
                obtain ⟨ad6, rfl, hcell⟩ := hcell
                have hj1 : (j : Int) < Y.length := by omega
                have hgt := Lib.hid (fun W => get_any (L) kk INV.out.len hlt W)
                rw [hhas, if_pos rfl] at hgt
                have T0d := Lib.hid (show Lies wr.drew w.heap.size (L) from T0.out)
                have T1d := Lib.hid (show IsMap wr.drew (w.heap.size + 1) (G) from T1.out)
                have T2d := Lib.hid (show IsMap wr.drew (w.heap.size + 1 + 1) (I) from T2.out)
                have TBd := Lib.hid (jB.drew)
                have I2 := Lib.hid (info29 (L) INV.out.len)
                clear T0 T1 T2 TB jB
                go_wp2_with fail
                refine wp_region_inv (fun a0 w0 b a' w' => ∃ x98 x99 x100 x101 x102 x103 x97 x104 x105 x12 x13 : Value, a' = (((((((((((a0.put (some 98) x98).put (some 99) x99).put (some 100) x100).put (some 101) x101).put (some 102) x102).put (some 103) x103).put (some 97) x97).put (some 104) x104).put (some 105) x105).put (some 12) x12).put (some 13) x13) ∧ Lies w' w.heap.size (L) ∧ IsMap w' (w.heap.size + 1) (G) ∧ IsMap w' (w.heap.size + 1 + 1) (I) ∧ Below w6.heap.size w6 w' ∧ w'.cell? (ad6.add j) = some (.int .u16 (kk : Int)) ∧ (b 0 = true → x98 = .agg (acs (L))) ∧ (b 1 = true → x99 = .slice (some ad6) Y.length c6) ∧ (b 2 = true → x100 = .int .i64 j) ∧ (b 3 = true → x101 = .pointer (some (ad6.add j))) ∧ (b 4 = true → x102 = .int .u16 kk) ∧ (b 5 = true → x103 = .tuple #[.int .i64 (sX (L) (kk % 128)), .bool true]) ∧ (b 6 = true → x97 = .tuple #[.int .i64 (sX (L) (kk % 128)), .bool true]) ∧ (b 7 = true → x104 = .int .i64 (sX (L) (kk % 128))) ∧ (b 8 = true → x105 = .bool true) ∧ (b 9 = true → x12 = .int .i64 (sX (L) (kk % 128))) ∧ (b 10 = true → x13 = .bool true)) (by kernel_rfl) (by kernel_rfl) ?start ⟨?op0, ?op1, ?op2, ?op3, ?op4, ?op5, ?op6, ?op7, ?op8, ?op9, ?op10, trivial⟩ ?done
                case start => exact ⟨_, _, _, _, _, _, _, _, _, _, _, by simp only [Act.put, List.setIfInBounds_toArray, List.set_cons_zero, List.set_cons_succ]; rfl, T0d.out, T1d.out, T2d.out, TBd.out, hcell, fun h => absurd h (by decide), fun h => absurd h (by decide), fun h => absurd h (by decide), fun h => absurd h (by decide), fun h => absurd h (by decide), fun h => absurd h (by decide), fun h => absurd h (by decide), fun h => absurd h (by decide), fun h => absurd h (by decide), fun h => absurd h (by decide), fun h => absurd h (by decide)⟩
                case op0 =>
                  rintro bb _ w' ⟨x98, x99, x100, x101, x102, x103, x97, x104, x105, x12, x13, rfl, t0, m1, m2, tB, tc, p98, p99, p100, p101, p102, p103, p97, p104, p105, p12, p13⟩ hb hd K hK
                  simp only [Act.put, List.setIfInBounds_toArray, List.set_cons_zero, List.set_cons_succ]
                  rw [if_pos (by rfl)]
                  refine wp_load_row 29 (.tmp 3) rfl _ rfl _ _ _ _ t0 Try.underlying29 rfl I2.out ?_
                  try simp only [Act.put, List.setIfInBounds_toArray, List.set_cons_zero, List.set_cons_succ]
                  exact hK _ _ ⟨.agg (acs (L)), x99, x100, x101, x102, x103, x97, x104, x105, x12, x13, by simp only [Act.put, List.setIfInBounds_toArray, List.set_cons_zero, List.set_cons_succ], t0, m1, m2, tB, tc, fun _ => rfl, fun h => p99 (by simpa [upb] using h), fun h => p100 (by simpa [upb] using h), fun h => p101 (by simpa [upb] using h), fun h => p102 (by simpa [upb] using h), fun h => p103 (by simpa [upb] using h), fun h => p97 (by simpa [upb] using h), fun h => p104 (by simpa [upb] using h), fun h => p105 (by simpa [upb] using h), fun h => p12 (by simpa [upb] using h), fun h => p13 (by simpa [upb] using h)⟩
                case op1 =>
                  rintro bb _ w' ⟨x98, x99, x100, x101, x102, x103, x97, x104, x105, x12, x13, rfl, t0, m1, m2, tB, tc, p98, p99, p100, p101, p102, p103, p97, p104, p105, p12, p13⟩ hb hd K hK
                  simp only [Act.put, List.setIfInBounds_toArray, List.set_cons_zero, List.set_cons_succ]
                  rw [if_pos (by rfl)]
                  go_simp
                  exact hK _ _ ⟨x98, .slice (some ad6) Y.length c6, x100, x101, x102, x103, x97, x104, x105, x12, x13, by simp only [Act.put, List.setIfInBounds_toArray, List.set_cons_zero, List.set_cons_succ], t0, m1, m2, tB, tc, fun h => p98 (by simpa [upb] using h), fun _ => rfl, fun h => p100 (by simpa [upb] using h), fun h => p101 (by simpa [upb] using h), fun h => p102 (by simpa [upb] using h), fun h => p103 (by simpa [upb] using h), fun h => p97 (by simpa [upb] using h), fun h => p104 (by simpa [upb] using h), fun h => p105 (by simpa [upb] using h), fun h => p12 (by simpa [upb] using h), fun h => p13 (by simpa [upb] using h)⟩
                case op2 =>
                  rintro bb _ w' ⟨x98, x99, x100, x101, x102, x103, x97, x104, x105, x12, x13, rfl, t0, m1, m2, tB, tc, p98, p99, p100, p101, p102, p103, p97, p104, p105, p12, p13⟩ hb hd K hK
                  simp only [Act.put, List.setIfInBounds_toArray, List.set_cons_zero, List.set_cons_succ]
                  rw [if_pos (by rfl)]
                  go_simp
                  exact hK _ _ ⟨x98, x99, .int .i64 j, x101, x102, x103, x97, x104, x105, x12, x13, by simp only [Act.put, List.setIfInBounds_toArray, List.set_cons_zero, List.set_cons_succ], t0, m1, m2, tB, tc, fun h => p98 (by simpa [upb] using h), fun h => p99 (by simpa [upb] using h), fun _ => rfl, fun h => p101 (by simpa [upb] using h), fun h => p102 (by simpa [upb] using h), fun h => p103 (by simpa [upb] using h), fun h => p97 (by simpa [upb] using h), fun h => p104 (by simpa [upb] using h), fun h => p105 (by simpa [upb] using h), fun h => p12 (by simpa [upb] using h), fun h => p13 (by simpa [upb] using h)⟩
                case op3 =>
                  rintro bb _ w' ⟨x98, x99, x100, x101, x102, x103, x97, x104, x105, x12, x13, rfl, t0, m1, m2, tB, tc, p98, p99, p100, p101, p102, p103, p97, p104, p105, p12, p13⟩ hb hd K hK
                  simp only [Act.put, List.setIfInBounds_toArray, List.set_cons_zero, List.set_cons_succ]
                  obtain rfl := p99 (hd 1 (by decide))
                  obtain rfl := p100 (hd 2 (by decide))
                  rw [if_pos (by rfl)]
                  go_simp
                  exact hK _ _ ⟨x98, .slice (some ad6) Y.length c6, .int .i64 j, .pointer (some (ad6.add j)), x102, x103, x97, x104, x105, x12, x13, by simp only [Act.put, List.setIfInBounds_toArray, List.set_cons_zero, List.set_cons_succ], t0, m1, m2, tB, tc, fun h => p98 (by simpa [upb] using h), fun _ => rfl, fun _ => rfl, fun _ => rfl, fun h => p102 (by simpa [upb] using h), fun h => p103 (by simpa [upb] using h), fun h => p97 (by simpa [upb] using h), fun h => p104 (by simpa [upb] using h), fun h => p105 (by simpa [upb] using h), fun h => p12 (by simpa [upb] using h), fun h => p13 (by simpa [upb] using h)⟩
                case op4 =>
                  rintro bb _ w' ⟨x98, x99, x100, x101, x102, x103, x97, x104, x105, x12, x13, rfl, t0, m1, m2, tB, tc, p98, p99, p100, p101, p102, p103, p97, p104, p105, p12, p13⟩ hb hd K hK
                  simp only [Act.put, List.setIfInBounds_toArray, List.set_cons_zero, List.set_cons_succ]
                  obtain rfl := p101 (hd 3 (by decide))
                  rw [if_pos (by rfl)]
                  go_simp
                  exact hK _ _ ⟨x98, x99, x100, .pointer (some (ad6.add j)), .int .u16 kk, x103, x97, x104, x105, x12, x13, by simp only [Act.put, List.setIfInBounds_toArray, List.set_cons_zero, List.set_cons_succ], t0, m1, m2, tB, tc, fun h => p98 (by simpa [upb] using h), fun h => p99 (by simpa [upb] using h), fun h => p100 (by simpa [upb] using h), fun _ => rfl, fun _ => rfl, fun h => p103 (by simpa [upb] using h), fun h => p97 (by simpa [upb] using h), fun h => p104 (by simpa [upb] using h), fun h => p105 (by simpa [upb] using h), fun h => p12 (by simpa [upb] using h), fun h => p13 (by simpa [upb] using h)⟩
                case op5 =>
                  rintro bb _ w' ⟨x98, x99, x100, x101, x102, x103, x97, x104, x105, x12, x13, rfl, t0, m1, m2, tB, tc, p98, p99, p100, p101, p102, p103, p97, p104, p105, p12, p13⟩ hb hd K hK
                  simp only [Act.put, List.setIfInBounds_toArray, List.set_cons_zero, List.set_cons_succ]
                  obtain rfl := p98 (hd 0 (by decide))
                  obtain rfl := p102 (hd 4 (by decide))
                  rw [if_pos (by rfl)]
                  go_simp
                  refine (hgt.out _).mono ?_; rintro e w4 ⟨rfl, hbel⟩
                  try dsimp only
                  exact hK _ _ ⟨.agg (acs (L)), x99, x100, x101, .int .u16 kk, .tuple #[.int .i64 (sX (L) (kk % 128)), .bool true], x97, x104, x105, x12, x13, by simp only [Act.put, List.setIfInBounds_toArray, List.set_cons_zero, List.set_cons_succ], t0.next hbel, m1.next hbel, m2.next hbel, bnext tB (Nat.le_refl _) hbel, cell_next hbel tc, fun _ => rfl, fun h => p99 (by simpa [upb] using h), fun h => p100 (by simpa [upb] using h), fun h => p101 (by simpa [upb] using h), fun _ => rfl, fun _ => rfl, fun h => p97 (by simpa [upb] using h), fun h => p104 (by simpa [upb] using h), fun h => p105 (by simpa [upb] using h), fun h => p12 (by simpa [upb] using h), fun h => p13 (by simpa [upb] using h)⟩
                case op6 =>
                  rintro bb _ w' ⟨x98, x99, x100, x101, x102, x103, x97, x104, x105, x12, x13, rfl, t0, m1, m2, tB, tc, p98, p99, p100, p101, p102, p103, p97, p104, p105, p12, p13⟩ hb hd K hK
                  simp only [Act.put, List.setIfInBounds_toArray, List.set_cons_zero, List.set_cons_succ]
                  obtain rfl := p103 (hd 5 (by decide))
                  rw [if_pos (by rfl)]
                  go_simp
                  exact hK _ _ ⟨x98, x99, x100, x101, x102, .tuple #[.int .i64 (sX (L) (kk % 128)), .bool true], .tuple #[.int .i64 (sX (L) (kk % 128)), .bool true], x104, x105, x12, x13, by simp only [Act.put, List.setIfInBounds_toArray, List.set_cons_zero, List.set_cons_succ], t0, m1, m2, tB, tc, fun h => p98 (by simpa [upb] using h), fun h => p99 (by simpa [upb] using h), fun h => p100 (by simpa [upb] using h), fun h => p101 (by simpa [upb] using h), fun h => p102 (by simpa [upb] using h), fun _ => rfl, fun _ => rfl, fun h => p104 (by simpa [upb] using h), fun h => p105 (by simpa [upb] using h), fun h => p12 (by simpa [upb] using h), fun h => p13 (by simpa [upb] using h)⟩
                case op7 =>
                  rintro bb _ w' ⟨x98, x99, x100, x101, x102, x103, x97, x104, x105, x12, x13, rfl, t0, m1, m2, tB, tc, p98, p99, p100, p101, p102, p103, p97, p104, p105, p12, p13⟩ hb hd K hK
                  simp only [Act.put, List.setIfInBounds_toArray, List.set_cons_zero, List.set_cons_succ]
                  obtain rfl := p97 (hd 6 (by decide))
                  rw [if_pos (by rfl)]
                  go_simp
                  exact hK _ _ ⟨x98, x99, x100, x101, x102, x103, .tuple #[.int .i64 (sX (L) (kk % 128)), .bool true], .int .i64 (sX (L) (kk % 128)), x105, x12, x13, by simp only [Act.put, List.setIfInBounds_toArray, List.set_cons_zero, List.set_cons_succ], t0, m1, m2, tB, tc, fun h => p98 (by simpa [upb] using h), fun h => p99 (by simpa [upb] using h), fun h => p100 (by simpa [upb] using h), fun h => p101 (by simpa [upb] using h), fun h => p102 (by simpa [upb] using h), fun h => p103 (by simpa [upb] using h), fun _ => rfl, fun _ => rfl, fun h => p105 (by simpa [upb] using h), fun h => p12 (by simpa [upb] using h), fun h => p13 (by simpa [upb] using h)⟩
                case op8 =>
                  rintro bb _ w' ⟨x98, x99, x100, x101, x102, x103, x97, x104, x105, x12, x13, rfl, t0, m1, m2, tB, tc, p98, p99, p100, p101, p102, p103, p97, p104, p105, p12, p13⟩ hb hd K hK
                  simp only [Act.put, List.setIfInBounds_toArray, List.set_cons_zero, List.set_cons_succ]
                  obtain rfl := p97 (hd 6 (by decide))
                  rw [if_pos (by rfl)]
                  go_simp
                  exact hK _ _ ⟨x98, x99, x100, x101, x102, x103, .tuple #[.int .i64 (sX (L) (kk % 128)), .bool true], x104, .bool true, x12, x13, by simp only [Act.put, List.setIfInBounds_toArray, List.set_cons_zero, List.set_cons_succ], t0, m1, m2, tB, tc, fun h => p98 (by simpa [upb] using h), fun h => p99 (by simpa [upb] using h), fun h => p100 (by simpa [upb] using h), fun h => p101 (by simpa [upb] using h), fun h => p102 (by simpa [upb] using h), fun h => p103 (by simpa [upb] using h), fun _ => rfl, fun h => p104 (by simpa [upb] using h), fun _ => rfl, fun h => p12 (by simpa [upb] using h), fun h => p13 (by simpa [upb] using h)⟩
                case op9 =>
                  rintro bb _ w' ⟨x98, x99, x100, x101, x102, x103, x97, x104, x105, x12, x13, rfl, t0, m1, m2, tB, tc, p98, p99, p100, p101, p102, p103, p97, p104, p105, p12, p13⟩ hb hd K hK
                  simp only [Act.put, List.setIfInBounds_toArray, List.set_cons_zero, List.set_cons_succ]
                  obtain rfl := p104 (hd 7 (by decide))
                  rw [if_pos (by rfl)]
                  go_simp
                  exact hK _ _ ⟨x98, x99, x100, x101, x102, x103, x97, .int .i64 (sX (L) (kk % 128)), x105, .int .i64 (sX (L) (kk % 128)), x13, by simp only [Act.put, List.setIfInBounds_toArray, List.set_cons_zero, List.set_cons_succ], t0, m1, m2, tB, tc, fun h => p98 (by simpa [upb] using h), fun h => p99 (by simpa [upb] using h), fun h => p100 (by simpa [upb] using h), fun h => p101 (by simpa [upb] using h), fun h => p102 (by simpa [upb] using h), fun h => p103 (by simpa [upb] using h), fun h => p97 (by simpa [upb] using h), fun _ => rfl, fun h => p105 (by simpa [upb] using h), fun _ => rfl, fun h => p13 (by simpa [upb] using h)⟩
                case op10 =>
                  rintro bb _ w' ⟨x98, x99, x100, x101, x102, x103, x97, x104, x105, x12, x13, rfl, t0, m1, m2, tB, tc, p98, p99, p100, p101, p102, p103, p97, p104, p105, p12, p13⟩ hb hd K hK
                  simp only [Act.put, List.setIfInBounds_toArray, List.set_cons_zero, List.set_cons_succ]
                  obtain rfl := p105 (hd 8 (by decide))
                  rw [if_pos (by rfl)]
                  go_simp
                  exact hK _ _ ⟨x98, x99, x100, x101, x102, x103, x97, x104, .bool true, x12, .bool true, by simp only [Act.put, List.setIfInBounds_toArray, List.set_cons_zero, List.set_cons_succ], t0, m1, m2, tB, tc, fun h => p98 (by simpa [upb] using h), fun h => p99 (by simpa [upb] using h), fun h => p100 (by simpa [upb] using h), fun h => p101 (by simpa [upb] using h), fun h => p102 (by simpa [upb] using h), fun h => p103 (by simpa [upb] using h), fun h => p97 (by simpa [upb] using h), fun h => p104 (by simpa [upb] using h), fun _ => rfl, fun h => p12 (by simpa [upb] using h), fun _ => rfl⟩
                case done =>
                  rintro bb _ w' hb ⟨x98, x99, x100, x101, x102, x103, x97, x104, x105, x12, x13, rfl, t0, m1, m2, tB, tc, p98, p99, p100, p101, p102, p103, p97, p104, p105, p12, p13⟩
                  obtain rfl := p98 (hb 0 (by decide))
                  obtain rfl := p99 (hb 1 (by decide))
                  obtain rfl := p100 (hb 2 (by decide))
                  obtain rfl := p101 (hb 3 (by decide))
                  obtain rfl := p102 (hb 4 (by decide))
                  obtain rfl := p103 (hb 5 (by decide))
                  obtain rfl := p97 (hb 6 (by decide))
                  obtain rfl := p104 (hb 7 (by decide))
                  obtain rfl := p105 (hb 8 (by decide))
                  obtain rfl := p12 (hb 9 (by decide))
                  obtain rfl := p13 (hb 10 (by decide))
                  simp only [Act.put, List.setIfInBounds_toArray, List.set_cons_zero, List.set_cons_succ]
                  have hlk := map_lookup31 m2 (kk : Int)
                  rw [← hyk, hget, hyk] at hlk
                  simp only [Option.getD_some, Option.isSome_some] at hlk
                  have tB := Lib.hid tB
                  clear t0 m1 m2
                  go_wp2_with fail
                  exact ⟨⟨j + 1, by go_num, by omega, tB.out⟩, by simp [intOf]; omega⟩
              · obtain rfl : j = Y.length := by omega
                have TB := Lib.hid (bnext UB.out (Nat.le_refl _) jB)
                go_wp2_with fail
                exact ⟨⟨k + 1, _, _, _, by go_num, by omega, INV.out, T0.out, T1.out, T2.out, TB.out⟩, by simp [intOf]; omega⟩
    · obtain rfl : k = len := by omega
      have VB := Lib.hid QB
      clear Q0 Q1 Q2 QB
      go_wp2_with fail
      refine (HK.out _).mono ?_; rintro e w6 ⟨rfl, b6⟩
      have VB := Lib.hid (bnext VB.out (Nat.le_refl _) b6)
      go_wp2_with fail
      go_ret
      exact ⟨rfl, VB.out⟩
end Go.Proofs.Ytfdbibddhneklab.Arena
