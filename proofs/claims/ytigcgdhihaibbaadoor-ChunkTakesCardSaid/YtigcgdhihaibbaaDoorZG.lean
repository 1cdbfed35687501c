/- LZ: Unpack for any limit: the walk. No condition. -/
import Derived.Test.YtigcgdhihaibbaaDoorZU
namespace Go.Proofs.YtigcgdhihaibbaaDoor.PLzG
open Go.Proofs.YtigcgdhihaibbaaDoor.PLz
open Go.RowKit Go.Proofs.YtigcgdhihaibbaaDoorW.PrintWords Go.Proofs.YtigcgdhihaibbaaDoorW.PrintLast Go.Proofs.YtigcgdhihaibbaaDoorW.PrintMore
attribute [local go_sem] max2_int min2_int max_two min_two max_three min_three max_four min_four   -- for this text's walks alone
set_option linter.unusedVariables false
set_option linter.unusedSimpArgs false
set_option maxHeartbeats 1000000 in
theorem lz_room_calls (w0 W : World) (g pm po : Nat) (l0 : List Int) (p : Nat) (e a1 n : Int) (vo : Value) (out : List Int) (h : lz_Un w0 W g pm po l0 p e a1 vo out) (ha : a1 ≤ 2147483647) (ho : out.length ≤ 1000000) (r : Bool) (hr : decide (n ≤ max 0 a1 - out.length) = r) :
    Calls Tryd.prog 45 #[.int .i64 n, .pointer (some ⟨pm, 0, none⟩), .pointer (some ⟨po, 0, none⟩)] W fun e w' => e = .returned (.bool r) ∧ w' = W := by
  obtain ⟨A, c, hv, hc, hC⟩ := Kd.R_reads h.out
  have k1 : W.cell? ⟨pm, 0, none⟩ = some (.int .i64 a1) := blk_cell h.m 0
  have k2 : W.cell? ⟨po, 0, none⟩ = some vo := blk_cell h.o 0
  subst hv
  clear h hC
  by_cases h0 : 0 < a1
  · rw [show max 0 a1 = a1 by omega] at hr
    have HR := Lib.hid hr
    clear hr
    go_enter Tryd.func45, Tryd.ntmps45
    go_wp2
    go_ret
    exact ⟨by rw [← HR.out]; rfl, rfl⟩
  · rw [show max 0 a1 = 0 by omega, Int.zero_sub] at hr
    have h0 : a1 ≤ 0 := by omega
    have HR := Lib.hid hr
    clear hr
    go_enter Tryd.func45, Tryd.ntmps45
    go_wp2
    go_ret
    exact ⟨by rw [← HR.out]; rfl, rfl⟩
def lz_unLoop (w0 W : World) (g pm po : Nat) (l0 : List Int) (a1 : Int) (R : List Int × Int) : Prop :=
  ∃ p vo out f, lz_Un w0 W g pm po l0 p 0 a1 vo out ∧ p ≤ l0.length ∧ (out.length : Int) ≤ max 0 a1 ∧ out.length ≤ 128 * p ∧ l0.length < f + p ∧ lz_unF (max 0 a1) f (l0.drop p) out = R
theorem lz_un_lit {w0 W w' : World} {g pm po : Nat} {l0 bs out : List Int} {p p2 f : Nat} {k e2 a1 : Int} {v : Value} {R : List Int × Int} (hc : (e2 = 3 ∧ bs = [] ∧ (l0.length : Int) - ((p + 1 : Nat) : Int) < k / 2 + 1) ∨ (e2 = 0 ∧ bs = (l0.drop (p + 1)).take (k / 2 + 1).toNat ∧ p2 = p + 1 + (k / 2 + 1).toNat ∧ k / 2 + 1 ≤ (l0.length : Int) - ((p + 1 : Nat) : Int) ∧ (bs.length : Int) = k / 2 + 1)) (he : e2 = 0)
    (hF : lz_unF (max 0 a1) (f + 1) (l0.drop p) out = R) (hC : l0.drop p = k :: l0.drop (p + 1)) (h128 : ¬ 128 ≤ k) (hk2 : k % 2 = 0) (hroom : k / 2 + 1 ≤ max 0 a1 - out.length) (hU : lz_Un w0 w' g pm po l0 p2 e2 a1 v (out ++ bs)) (hp2 : p2 ≤ l0.length) (ho : (out.length : Int) ≤ max 0 a1) (hlt : p < l0.length) (hf : l0.length < f + 1 + p) (hP : lz_posOf W g = p) (hk0 : 0 ≤ k) (hob : out.length ≤ 128 * p) :
    Hid (lz_unLoop w0 w' g pm po l0 a1 R) ∧ l0.length - lz_posOf w' g < l0.length - lz_posOf W g := by
  subst he
  rcases hc with ⟨h, _⟩ | ⟨_, hbs, hp2', hle, hbl⟩
  · exact absurd h (by decide)
  · refine ⟨Lib.hid ⟨p2, v, out ++ bs, f, hU, hp2, by simp only [List.length_append]; omega, by simp only [List.length_append]; omega, by omega, ?_⟩, by rw [lz_pos_at hU.rd, hP]; omega⟩
    rw [← hF, hC, lz_un_cons, if_neg h128, if_pos hk2, if_neg (by omega), if_neg (by rw [List.length_drop]; omega), hbs, List.drop_drop, hp2']
theorem lz_un_next {w0 W w' : World} {g pm po : Nat} {l0 out out1 TG : List Int} {p p2 f N farN : Nat} {a1 : Int} {v : Value} {R : List Int × Int} (hU : lz_Un w0 w' g pm po l0 p2 0 a1 v out1) (hT : lz_copy farN (N - N) out1 = TG) (hE : lz_unF (max 0 a1) f (l0.drop p2) TG = R) (hol : out1.length = out.length + N) (hroom : (N : Int) ≤ max 0 a1 - out.length) (hpp : p + 1 ≤ p2) (hp2 : p2 ≤ l0.length) (hlt : p < l0.length) (hf : l0.length < f + 1 + p) (hP : lz_posOf W g = p) (hob : out.length ≤ 128 * p) (hNN : N ≤ 128) :
    Hid (lz_unLoop w0 w' g pm po l0 a1 R) ∧ l0.length - lz_posOf w' g < l0.length - lz_posOf W g := by
  rw [Nat.sub_self] at hT
  have hT : out1 = TG := hT
  subst hT
  exact ⟨Lib.hid ⟨p2, v, out1, f, hU, hp2, by omega, by omega, by omega, hE⟩, by rw [lz_pos_at hU.rd, hP]; omega⟩
set_option maxHeartbeats 8000000 in
set_option maxRecDepth 100000 in
theorem lz_Unpack_calls (A : Option Addr) (c : Nat) (l0 : List Int) (a1 : Int) (w0 : World) (hC : Kd.C (Kd.int .u8) w0 A l0.length l0) (hc : l0.length ≤ c) (hl : l0.length ≤ 6000) (ha : a1 ≤ 2147483647) (hkb : ∀ x ∈ l0, 0 ≤ x ∧ x < 256) (R : List Int × Int) (hR : lz_unF (max 0 a1) (l0.length + 1) l0 [] = R) :
    Calls Tryd.prog 26 #[.slice A l0.length c, .int .i64 a1] w0 fun e w' => lz_UnPost w0 w' e R := by
  have hm : (w0.alloc (.cells #[.int .i64 a1] 3)).heap[w0.heap.size]? = some (.cells #[.int .i64 a1] 3 (0, 0)) := heap_alloc_new _ _
  have hB0 : Below w0.heap.size w0 (w0.alloc (.cells #[.int .i64 a1] 3)) := below_alloc (Below.refl _ _) _
  have OF := wire_Of.calls A c l0 l0 0 0 w0 _ hB0 hC hc rfl
  have HM := Lib.hid hm
  have HR := Lib.hid hR
  have HK := Lib.hid hkb
  have HOF := Lib.hid OF
  clear hC hm hR hkb hB0 OF
  go_enter Tryd.func26, Tryd.ntmps26
  go_wp2_with fail
  refine HOF.out.mono ?_; rintro e w1 ⟨g, rfl, hI, hB1, hB2⟩
  have hm1 : w1.heap[w0.heap.size]? = some (.cells #[.int .i64 a1] 3 (0, 0)) := (hB2.block _ (blk_lt HM.out)).trans HM.out
  have hb3 := below_alloc (Below.refl w1.heap.size w1) (.cells #[.slice none 0 0] 22)
  have HI : Hid (lz_unLoop w0 (w1.alloc (.cells #[.slice none 0 0] 22)) g w0.heap.size w1.heap.size l0 a1 R) := Lib.hid ⟨0, .slice none 0 0, [], l0.length + 1,
    ⟨hI.below hb3, below_alloc hB1 _, (hb3.block _ (blk_lt hm1)).trans hm1, heap_alloc_new _ _, Kd.R_nil _ _ _ _ _, hB1.size⟩, by omega, by simp; omega, by simp, by omega, HR.out⟩
  clear hI hB1 hB2 hm1 hb3 HOF
  go_wp2_with fail
  obtain ⟨pm, hpm⟩ : ∃ pm, w0.heap.size = pm := ⟨_, rfl⟩
  obtain ⟨po, hpo⟩ : ∃ po, w1.heap.size = po := ⟨_, rfl⟩
  rw [hpm, hpo] at HI ⊢
  clear hpm hpo HM
  go_loopw [9] (fun _ wr => Hid (lz_unLoop w0 wr g pm po l0 a1 R)) (fun _ wr => l0.length - lz_posOf wr g)
  case atStart => exact HI
  case round =>
    have HP := hrel
    obtain ⟨p, vo, out, f, hU, hp, ho, hob, hf, hF⟩ := HP.out
    have HPOS : Hid (lz_posOf wr g = p) := Lib.hid (lz_pos_at hU.rd)
    have HU := Lib.hid hU
    have HF := Lib.hid hF
    have LF := Lib.hid (wire_Left_ro g l0 p 0 w0 wr hU.rd (by omega) (by omega))
    clear hU hF
    obtain ⟨f, rfl⟩ : ∃ f', f = f' + 1 := ⟨f - 1, by omega⟩
    by_cases hlt : p < l0.length
    · have d0 : decide ((0 : Int) < (l0.length : Int) - p) = true := by simp; omega
      go_wp2_with fail
      refine LF.out.mono ?_; rintro e w2 ⟨rfl, n2, rfl⟩
      obtain ⟨k, hk⟩ : ∃ k, l0.getD p 0 = k := ⟨_, rfl⟩
      have hkr : 0 ≤ k ∧ k < 256 := by rw [← hk]; exact lz_byte_at HK.out hlt
      have hcons := lz_drop_cons hlt
      rw [hk] at hcons
      have hbf : wire_Reader_Bytes.f l0 p 0 1 = some ([k], ((p + 1 : Nat) : Int), 0) := lz_bytes_one hlt (by omega) hk
      have hU2 := HU.out.next (pw_below_drewN (Below.refl wr.heap.size wr) n2)
      have BY := Lib.hid (wire_Reader_Bytes.calls g l0 p 0 1 _ _ _ w0 _ hU2.rd hU2.hb hbf)
      have HCONS := Lib.hid hcons
      have HU2 := Lib.hid hU2
      clear hk hcons hbf hU2
      go_wp2_with fail
      refine BY.out.mono ?_; rintro e w3 ⟨v0, rfl, hRv, hI3, hB3, hK3⟩
      have hU3 := HU2.out.read (p2 := p + 1) hI3 hB3 hK3
      obtain ⟨ad, cv, hv0, hkc⟩ := lz_R_one hRv
      subst hv0
      have HU3 := Lib.hid hU3
      clear hRv hI3 hB3 hK3 hU3 BY HU2
      by_cases h128 : 128 ≤ k
      · have d1 : decide ((128 : Int) ≤ k) = true := by simp; omega
        have HE : Hid (([], 4) = R) := Lib.hid (by rw [← HF.out, HCONS.out, lz_un_cons, if_pos h128])
        go_wp2_with fail
        go_ret2
        exact lz_un_ret HE.out HU3.out.hb
      · have d1 : decide ((128 : Int) ≤ k) = false := by simp; omega
        by_cases hk2 : k % 2 = 0
        · have d2 : (k % 2 == 0) = true := by simp [hk2]
          have HK2 := Lib.hid hk2
          clear hk2
          by_cases hroom : k / 2 + 1 ≤ max 0 a1 - out.length
          · as_aux_lemma =>
              have RM := Lib.hid (lz_room_calls w0 w3 g pm po l0 (p + 1) 0 a1 (k / 2 + 1) vo out HU3.out ha (by omega) true (by simp; omega))
              obtain ⟨bs, p2, e2, hbf, hp2, hcase⟩ := lz_bytes_any l0 (p + 1) (k / 2 + 1) (by omega) (by omega) (by omega)
              have hbsl : bs.length ≤ 128 := by rcases hcase with ⟨_, h, _⟩ | ⟨_, _, _, _, h⟩; (rw [h]; simp); omega
              have HBF := Lib.hid hbf
              have HCASE := Lib.hid hcase
              have HU4 := HU3
              clear hbf hcase
              go_wp2_with fail
              refine RM.out.mono ?_; rintro e w4 ⟨rfl, rfl⟩
              go_wp2_with fail
              refine wp_region_inv (fun a0 w_0 b a' w' => ∃ x90 x91 x92 x93 x94 x95 x96 : Value, a' = (((((((a0.put (some 90) x90).put (some 91) x91).put (some 92) x92).put (some 93) x93).put (some 94) x94).put (some 95) x95).put (some 96) x96) ∧ (b 5 = false → lz_Un w0 w' g pm po l0 (p + 1) 0 a1 vo out) ∧ (b 5 = true → b 6 = false → lz_Un w0 w' g pm po l0 p2 e2 a1 vo out ∧ Kd.R (Kd.int .u8) 5 w' w0.heap.size (fun _ => True) x95 bs) ∧ (b 6 = true → b 7 = false → lz_UnA w0 w' g pm po l0 p2 e2 a1 vo x96 (out ++ bs)) ∧ (b 7 = true → lz_Un w0 w' g pm po l0 p2 e2 a1 x96 (out ++ bs)) ∧ (b 6 = true → b 5 = true) ∧ (b 7 = true → ∀ j, j < 7 → b j = true) ∧ (b 0 = true → x90 = vo) ∧ (b 1 = true → x91 = .pointer (some ⟨g, 0, none⟩)) ∧ (b 2 = true → x92 = .int .i64 k) ∧ (b 3 = true → x93 = .int .i64 (k / 2)) ∧ (b 4 = true → x94 = .int .i64 (k / 2 + 1))) (by kernel_rfl) (by kernel_rfl) ?start ⟨?op0, ?op1, ?op2, ?op3, ?op4, ?op5, ?op6, ?op7, trivial⟩ ?done
              case start => exact ⟨_, _, _, _, _, _, _, by simp only [Act.put, List.setIfInBounds_toArray, List.set_cons_zero, List.set_cons_succ]; rfl, fun _ => HU4.out.next (below_drew1 (Below.refl _ _)), fun h => absurd h (by decide), fun h => absurd h (by decide), fun h => absurd h (by decide), fun h => absurd h (by decide), fun h => absurd h (by decide), fun h => absurd h (by decide), fun h => absurd h (by decide), fun h => absurd h (by decide), fun h => absurd h (by decide), fun h => absurd h (by decide)⟩
              case op0 =>
                rintro bb _ w' ⟨x90, x91, x92, x93, x94, x95, x96, rfl, U0, U1, U2, U3, Q6, Q7, p90, p91, p92, p93, p94⟩ hb hd K hK
                simp only [Act.put, List.setIfInBounds_toArray, List.set_cons_zero, List.set_cons_succ]
                rw [if_pos (by rfl)]
                have h7 : bb 7 = false := by cases h : bb 7 with | false => rfl | true => exact absurd (Q7 h 0 (by decide)) (by rw [hb]; decide)
                have hpo : w'.cell? ⟨po, 0, none⟩ = some vo := lz_un_po U0 U1 U2 h7
                go_simp
                exact hK _ _ ⟨vo, x91, x92, x93, x94, x95, x96, by simp only [Act.put, List.setIfInBounds_toArray, List.set_cons_zero, List.set_cons_succ], fun h => U0 (by simpa [upb] using h), fun h h2 => U1 (by simpa [upb] using h) (by simpa [upb] using h2), fun h h2 => U2 (by simpa [upb] using h) (by simpa [upb] using h2), fun h => absurd h (by simp [upb, h7]), fun h => lz_upb (Q6 (by simpa [upb] using h)), fun h => absurd h (by simp [upb, h7]), fun _ => rfl, fun h => p91 (by simpa [upb] using h), fun h => p92 (by simpa [upb] using h), fun h => p93 (by simpa [upb] using h), fun h => p94 (by simpa [upb] using h)⟩
              case op1 =>
                rintro bb _ w' ⟨x90, x91, x92, x93, x94, x95, x96, rfl, U0, U1, U2, U3, Q6, Q7, p90, p91, p92, p93, p94⟩ hb hd K hK
                simp only [Act.put, List.setIfInBounds_toArray, List.set_cons_zero, List.set_cons_succ]
                rw [if_pos (by rfl)]
                have h7 : bb 7 = false := by cases h : bb 7 with | false => rfl | true => exact absurd (Q7 h 1 (by decide)) (by rw [hb]; decide)
                go_simp
                exact hK _ _ ⟨x90, .pointer (some ⟨g, 0, none⟩), x92, x93, x94, x95, x96, by simp only [Act.put, List.setIfInBounds_toArray, List.set_cons_zero, List.set_cons_succ], fun h => U0 (by simpa [upb] using h), fun h h2 => U1 (by simpa [upb] using h) (by simpa [upb] using h2), fun h h2 => U2 (by simpa [upb] using h) (by simpa [upb] using h2), fun h => absurd h (by simp [upb, h7]), fun h => lz_upb (Q6 (by simpa [upb] using h)), fun h => absurd h (by simp [upb, h7]), fun h => p90 (by simpa [upb] using h), fun _ => rfl, fun h => p92 (by simpa [upb] using h), fun h => p93 (by simpa [upb] using h), fun h => p94 (by simpa [upb] using h)⟩
              case op2 =>
                rintro bb _ w' ⟨x90, x91, x92, x93, x94, x95, x96, rfl, U0, U1, U2, U3, Q6, Q7, p90, p91, p92, p93, p94⟩ hb hd K hK
                simp only [Act.put, List.setIfInBounds_toArray, List.set_cons_zero, List.set_cons_succ]
                rw [if_pos (by rfl)]
                have h7 : bb 7 = false := by cases h : bb 7 with | false => rfl | true => exact absurd (Q7 h 2 (by decide)) (by rw [hb]; decide)
                go_simp
                exact hK _ _ ⟨x90, x91, .int .i64 k, x93, x94, x95, x96, by simp only [Act.put, List.setIfInBounds_toArray, List.set_cons_zero, List.set_cons_succ], fun h => U0 (by simpa [upb] using h), fun h h2 => U1 (by simpa [upb] using h) (by simpa [upb] using h2), fun h h2 => U2 (by simpa [upb] using h) (by simpa [upb] using h2), fun h => absurd h (by simp [upb, h7]), fun h => lz_upb (Q6 (by simpa [upb] using h)), fun h => absurd h (by simp [upb, h7]), fun h => p90 (by simpa [upb] using h), fun h => p91 (by simpa [upb] using h), fun _ => rfl, fun h => p93 (by simpa [upb] using h), fun h => p94 (by simpa [upb] using h)⟩
              case op3 =>
                rintro bb _ w' ⟨x90, x91, x92, x93, x94, x95, x96, rfl, U0, U1, U2, U3, Q6, Q7, p90, p91, p92, p93, p94⟩ hb hd K hK
                simp only [Act.put, List.setIfInBounds_toArray, List.set_cons_zero, List.set_cons_succ]
                obtain rfl := (p92 (hd 2 (by decide))).symm
                rw [if_pos (by rfl)]
                have h7 : bb 7 = false := by cases h : bb 7 with | false => rfl | true => exact absurd (Q7 h 3 (by decide)) (by rw [hb]; decide)
                have hq : k.tdiv 2 = k / 2 := Int.tdiv_eq_ediv_of_nonneg (by omega)
                have hw : IntKind.i64.wrap (k / 2) = k / 2 := IntWalk.i64_in _ (by omega)
                go_simp
                exact hK _ _ ⟨x90, x91, .int .i64 k, .int .i64 (k / 2), x94, x95, x96, by simp only [Act.put, List.setIfInBounds_toArray, List.set_cons_zero, List.set_cons_succ], fun h => U0 (by simpa [upb] using h), fun h h2 => U1 (by simpa [upb] using h) (by simpa [upb] using h2), fun h h2 => U2 (by simpa [upb] using h) (by simpa [upb] using h2), fun h => absurd h (by simp [upb, h7]), fun h => lz_upb (Q6 (by simpa [upb] using h)), fun h => absurd h (by simp [upb, h7]), fun h => p90 (by simpa [upb] using h), fun h => p91 (by simpa [upb] using h), fun _ => rfl, fun _ => rfl, fun h => p94 (by simpa [upb] using h)⟩
              case op4 =>
                rintro bb _ w' ⟨x90, x91, x92, x93, x94, x95, x96, rfl, U0, U1, U2, U3, Q6, Q7, p90, p91, p92, p93, p94⟩ hb hd K hK
                simp only [Act.put, List.setIfInBounds_toArray, List.set_cons_zero, List.set_cons_succ]
                obtain rfl := (p93 (hd 3 (by decide))).symm
                rw [if_pos (by rfl)]
                have h7 : bb 7 = false := by cases h : bb 7 with | false => rfl | true => exact absurd (Q7 h 4 (by decide)) (by rw [hb]; decide)
                have hw : IntKind.i64.wrap (k / 2 + 1) = k / 2 + 1 := IntWalk.i64_in _ (by omega)
                go_simp
                exact hK _ _ ⟨x90, x91, x92, .int .i64 (k / 2), .int .i64 (k / 2 + 1), x95, x96, by simp only [Act.put, List.setIfInBounds_toArray, List.set_cons_zero, List.set_cons_succ], fun h => U0 (by simpa [upb] using h), fun h h2 => U1 (by simpa [upb] using h) (by simpa [upb] using h2), fun h h2 => U2 (by simpa [upb] using h) (by simpa [upb] using h2), fun h => absurd h (by simp [upb, h7]), fun h => lz_upb (Q6 (by simpa [upb] using h)), fun h => absurd h (by simp [upb, h7]), fun h => p90 (by simpa [upb] using h), fun h => p91 (by simpa [upb] using h), fun h => p92 (by simpa [upb] using h), fun _ => rfl, fun _ => rfl⟩
              case op5 =>
                rintro bb _ w' ⟨x90, x91, x92, x93, x94, x95, x96, rfl, U0, U1, U2, U3, Q6, Q7, p90, p91, p92, p93, p94⟩ hb hd K hK
                simp only [Act.put, List.setIfInBounds_toArray, List.set_cons_zero, List.set_cons_succ]
                obtain rfl := (p91 (hd 1 (by decide))).symm
                obtain rfl := (p94 (hd 4 (by decide))).symm
                rw [if_pos (by rfl)]
                have h7 : bb 7 = false := by cases h : bb 7 with | false => rfl | true => exact absurd (Q7 h 5 (by decide)) (by rw [hb]; decide)
                have hU4 := U0 hb
                have hBy := wire_Reader_Bytes.calls g l0 ((p + 1 : Nat) : Int) 0 (k / 2 + 1) _ _ _ w0 w' hU4.rd hU4.hb HBF.out
                go_simp
                refine hBy.mono ?_; rintro e w4 ⟨v4, rfl, hR4, hI4, hB4, hK4⟩
                have hU5 : lz_Un w0 w4 g pm po l0 p2 e2 a1 vo out ∧ Kd.R (Kd.int .u8) 5 w4 w0.heap.size (fun _ => True) v4 bs := ⟨hU4.read hI4 hB4 hK4, Kd.R_lower hR4 hU4.hb.size⟩
                try dsimp only
                exact hK _ _ ⟨x90, .pointer (some ⟨g, 0, none⟩), x92, x93, .int .i64 (k / 2 + 1), v4, x96, by simp only [Act.put, List.setIfInBounds_toArray, List.set_cons_zero, List.set_cons_succ], fun h => absurd h (by simp [upb]), fun _ _ => hU5, fun h => absurd (Q6 (by simpa [upb] using h)) (by rw [hb]; decide), fun h => absurd h (by simp [upb, h7]), fun _ => by simp [upb], fun h => absurd h (by simp [upb, h7]), fun h => p90 (by simpa [upb] using h), fun _ => rfl, fun h => p92 (by simpa [upb] using h), fun h => p93 (by simpa [upb] using h), fun _ => rfl⟩
              case op6 =>
                rintro bb _ w' ⟨x90, x91, x92, x93, x94, x95, x96, rfl, U0, U1, U2, U3, Q6, Q7, p90, p91, p92, p93, p94⟩ hb hd K hK
                simp only [Act.put, List.setIfInBounds_toArray, List.set_cons_zero, List.set_cons_succ]
                obtain rfl := (p90 (hd 0 (by decide))).symm
                rw [if_pos (by rfl)]
                have h7 : bb 7 = false := by cases h : bb 7 with | false => rfl | true => exact absurd (Q7 h 6 (by decide)) (by rw [hb]; decide)
                obtain ⟨hU5, hR5⟩ := U1 (hd 5 (by decide)) hb
                obtain ⟨a5, c5, e5, hc5, hC5⟩ := Kd.R_reads hR5
                subst e5
                refine lz_wp_append (w0 := w0) rfl (.tmp 90) (.tmp 95) rfl vo out bs a5 c5 (by rfl) (by rfl) hU5.out hC5 hU5.hb (by omega) ?_
                intro v6 w6 hR6 hB6 hg6
                have hU6 := hU5.app hR6 hB6 hg6
                exact hK _ _ ⟨vo, x91, x92, x93, x94, .slice a5 bs.length c5, v6, by simp only [Act.put, List.setIfInBounds_toArray, List.set_cons_zero, List.set_cons_succ], fun h => absurd (hd 5 (by decide)) (by simpa [upb] using h), fun _ h => absurd h (by simp [upb]), fun _ _ => hU6, fun h => absurd h (by simp [upb, h7]), fun _ => lz_upb (hd 5 (by decide)), fun h => absurd h (by simp [upb, h7]), fun _ => rfl, fun h => p91 (by simpa [upb] using h), fun h => p92 (by simpa [upb] using h), fun h => p93 (by simpa [upb] using h), fun h => p94 (by simpa [upb] using h)⟩
              case op7 =>
                rintro bb _ w' ⟨x90, x91, x92, x93, x94, x95, x96, rfl, U0, U1, U2, U3, Q6, Q7, p90, p91, p92, p93, p94⟩ hb hd K hK
                simp only [Act.put, List.setIfInBounds_toArray, List.set_cons_zero, List.set_cons_succ]
                rw [if_pos (by rfl)]
                have hU6 := U2 (hd 6 (by decide)) hb
                have hU7 := hU6.store
                have hc3 : w'.cell? ⟨po, 0, none⟩ = some vo := blk_cell hU6.o 0
                have hf3 : w'.frozen? ⟨po, 0, none⟩ = false := blk_frozen hU6.o 0
                obtain ⟨a6, c6, e6, -, -⟩ := Kd.R_reads hU6.out
                obtain ⟨n6, hn6⟩ : ∃ n6, (out ++ bs).length = n6 := ⟨_, rfl⟩
                rw [hn6] at e6
                subst e6
                go_simp
                exact hK _ _ ⟨x90, x91, x92, x93, x94, x95, .slice a6 n6 c6, by simp only [Act.put, List.setIfInBounds_toArray, List.set_cons_zero, List.set_cons_succ], fun h => absurd (hd 5 (by decide)) (by simpa [upb] using h), fun _ h => absurd (hd 6 (by decide)) (by simpa [upb] using h), fun _ h => absurd h (by simp [upb]), fun _ => hU7, fun h => lz_upb (Q6 (by simpa [upb] using h)), fun _ j hj => lz_upb (hd j (lz_memn 7 _ (by decide) j hj)), fun h => p90 (by simpa [upb] using h), fun h => p91 (by simpa [upb] using h), fun h => p92 (by simpa [upb] using h), fun h => p93 (by simpa [upb] using h), fun h => p94 (by simpa [upb] using h)⟩
              case done =>
                rintro bb _ w' hb ⟨x90, x91, x92, x93, x94, x95, x96, rfl, U0, U1, U2, U3, Q6, Q7, p90, p91, p92, p93, p94⟩
                obtain rfl := (p90 (hb 0 (by decide))).symm
                obtain rfl := (p91 (hb 1 (by decide))).symm
                obtain rfl := (p92 (hb 2 (by decide))).symm
                obtain rfl := (p93 (hb 3 (by decide))).symm
                obtain rfl := (p94 (hb 4 (by decide))).symm
                simp only [Act.put, List.setIfInBounds_toArray, List.set_cons_zero, List.set_cons_succ]
                have HU8 := Lib.hid (U3 (hb 7 (by decide)))
                clear U0 U1 U2 U3 Q6 Q7 hb
                have hE := wire_Err_ro g l0 (p2 : Int) e2 w0 w' HU8.out.rd
                have HER := Lib.hid hE
                clear hE
                go_wp2_with fail
                refine HER.out.mono ?_; rintro e w9 ⟨rfl, rfl⟩
                by_cases he2 : e2 = 0
                · have d3 : (e2 != 0) = false := by simp [he2]
                  have HN := Lib.hid (lz_un_lit HCASE.out he2 HF.out HCONS.out (by omega) HK2.out hroom HU8.out hp2 ho hlt hf HPOS.out hkr.1 hob)
                  clear he2
                  go_wp2_with fail
                  exact HN.out
                · have d3 : (e2 != 0) = true := by simp [he2]
                  have HE := Lib.hid (lz_un_lit3 HCASE.out he2 HF.out HCONS.out (by omega) HK2.out hroom hkr.1)
                  clear he2
                  go_wp2_with fail
                  refine HER.out.mono ?_; rintro e w10 ⟨rfl, rfl⟩
                  go_wp2_with fail
                  go_ret2
                  exact lz_un_ret HE.out HU8.out.hb
          · have RM := Lib.hid (lz_room_calls w0 w3 g pm po l0 (p + 1) 0 a1 (k / 2 + 1) vo out HU3.out ha (by omega) false (by simp; omega))
            have HE : Hid (([], 6) = R) := Lib.hid (by rw [← HF.out, HCONS.out, lz_un_cons, if_neg h128, if_pos HK2.out, if_pos (by omega)])
            go_wp2_with fail
            refine RM.out.mono ?_; rintro e w4 ⟨rfl, rfl⟩
            go_wp2_with fail
            go_ret2
            exact lz_un_ret HE.out HU3.out.hb
        · have d2 : (k % 2 == 0) = false := by simp [hk2]
          have HK2 := Lib.hid hk2
          clear hk2
          obtain ⟨far, p2, e2, hif, hp2, hcase⟩ := lz_int_any l0 (p + 1) (by omega) (by omega) HK.out
          have hU3 := HU3.out
          have IN := Lib.hid (wire_Reader_Int.calls g l0 ((p + 1 : Nat) : Int) 0 _ _ _ w0 w3 hU3.rd hU3.hb hif)
          have hw : IntKind.i64.wrap (k / 2 + 3) = k / 2 + 3 := IntWalk.i64_in _ (by omega)
          have HCASE := Lib.hid hcase
          clear hif hcase hU3
          go_wp2_with fail
          refine IN.out.mono ?_; rintro e w4 ⟨rfl, hI4, hB4, hK4⟩
          have HU4 := Lib.hid (HU3.out.read hI4 hB4 hK4)
          have HER := Lib.hid (wire_Err_ro g l0 (p2 : Int) e2 w0 w4 HU4.out.rd)
          clear hI4 hB4 hK4 IN
          by_cases he2 : e2 = 0
          · as_aux_lemma =>
              have d3 : (e2 == 0) = true := by simp [he2]
              subst he2
              obtain ⟨farN, rfl⟩ : ∃ n : Nat, far = n := ⟨far.toNat, by rcases HCASE.out with ⟨h, _⟩ | ⟨_, _, _, h, _⟩; exact absurd rfl h; omega⟩
              obtain ⟨hv1, hv2, hfl, hp2b⟩ := lz_un_far HCASE.out
              have HV1 := Lib.hid hv1
              have HV2 := Lib.hid hv2
              clear hv1 hv2
              have hko : w4.cell? ⟨po, 0, none⟩ = some vo := blk_cell HU4.out.o 0
              obtain ⟨av, cv2, hvo, hcv, hCv⟩ := Kd.R_reads HU4.out.out
              subst hvo
              have HCV := Lib.hid hCv
              clear hCv
              by_cases h4 : (4096 : Int) ≤ farN
              · have d4 : decide ((4096 : Int) ≤ farN) = true := by simp; omega
                have HE := Lib.hid (lz_un_far_bad HV1.out HV2.out hfl (.inl h4) HF.out HCONS.out (by omega) HK2.out)
                go_wp2_with fail
                refine HER.out.mono ?_; rintro e w5 ⟨rfl, rfl⟩
                go_wp2_with fail
                go_ret2
                exact lz_un_ret HE.out HU4.out.hb
              · have d4 : decide ((4096 : Int) ≤ farN) = false := by simp; omega
                by_cases h5 : (out.length : Int) ≤ farN
                · have d5 : decide ((out.length : Int) ≤ farN) = true := by simp; omega
                  have HE := Lib.hid (lz_un_far_bad HV1.out HV2.out hfl (.inr h5) HF.out HCONS.out (by omega) HK2.out)
                  go_wp2_with fail
                  refine HER.out.mono ?_; rintro e w5 ⟨rfl, rfl⟩
                  go_wp2_with fail
                  go_ret2
                  exact lz_un_ret HE.out HU4.out.hb
                · have d5 : decide ((out.length : Int) ≤ farN) = false := by simp; omega
                  by_cases hroom : k / 2 + 3 ≤ max 0 a1 - out.length
                  · as_aux_lemma =>
                      have RM := Lib.hid (lz_room_calls w0 w4 g pm po l0 p2 0 a1 (k / 2 + 3) _ out HU4.out ha (by omega) true (by simp; omega))
                      have HE := Lib.hid (lz_un_far_go HV1.out HV2.out hfl h4 h5 (by omega) HF.out HCONS.out (by omega) HK2.out)
                      obtain ⟨N, hN⟩ : ∃ N : Nat, k / 2 + 3 = N := ⟨(k / 2 + 3).toNat, by omega⟩
                      have HTG : Hid (lz_copy farN (N - 0) out = lz_copy farN N out) := Lib.hid rfl
                      have HE2 : Hid (lz_unF (max 0 a1) f (l0.drop p2) (lz_copy farN N out) = R) := Lib.hid (by have := HE.out; rw [hN] at this; simpa using this)
                      obtain ⟨TG, hTG⟩ : ∃ TG, lz_copy farN N out = TG := ⟨_, rfl⟩
                      rw [hTG] at HTG HE2
                      have HN := Lib.hid hN
                      clear hTG HE hN
                      go_wp2_with fail
                      refine HER.out.mono ?_; rintro e w5 ⟨rfl, rfl⟩
                      go_wp2_with fail
                      refine HER.out.mono ?_; rintro e w5 ⟨rfl, rfl⟩
                      go_wp2_with fail
                      refine RM.out.mono ?_; rintro e w5 ⟨rfl, rfl⟩
                      go_wp2_with fail
                      refine HER.out.mono ?_; rintro e w5 ⟨rfl, rfl⟩
                      go_wp2_with fail
                      go_loopw [57] (fun v57 wq => ∃ (i : Nat) (vo' : Value) (out' : List Int), v57 = .int .i64 i ∧ i ≤ N ∧ out'.length = out.length + i ∧ Hid (lz_Un w0 wq g pm po l0 p2 0 a1 vo' out') ∧ Hid (lz_copy farN (N - i) out' = TG)) (fun v57 _ => N - (intOf v57).toNat)
                      case atStart => exact ⟨0, _, out, rfl, by omega, by omega, HU4, HTG⟩
                      case round =>
                        obtain ⟨i, vo', out', rfl, hi, hol, HU6, HTG⟩ := hrel
                        by_cases hin : i < N
                        · as_aux_lemma =>
                            have d6 : decide ((i : Int) < k / 2 + 3) = true := by have := HN.out; simp; omega
                            have hfl2 : farN < out'.length := by omega
                            have hNb : (N : Int) ≤ 130 := by have := HN.out; omega
                            obtain ⟨ad, cv, hvo'⟩ := lz_R_some HU6.out.out (by omega)
                            subst hvo'
                            have HU4 := HU6
                            have hlim : out'.length ≤ 2000000 := by have := HN.out; omega
                            have hgrow : out'.length = out.length + i := hol
                            obtain ⟨j_, hj_⟩ : ∃ j_, out'.length = j_ + 1 + farN := ⟨out'.length - 1 - farN, by omega⟩
                            obtain ⟨x, hx⟩ : ∃ x, out'.getD j_ 0 = x := ⟨_, rfl⟩
                            have HTG2 := Lib.hid (lz_copy_step hin hj_ hx HTG.out)
                            have HX := Lib.hid hx
                            have HJ : Hid (j_ < out'.length) := Lib.hid (by omega)
                            have HOL := Lib.hid hol
                            have HJ_ := Lib.hid hj_
                            have hjA : (j_ : Int) + 1 + farN ≤ out'.length := by omega
                            have hjB : (out'.length : Int) ≤ (j_ : Int) + 1 + farN := by omega
                            clear hx hol hgrow hj_
                            go_wp2_with fail
                            refine wp_region_inv (fun a0 w_0 b a' w' => ∃ x59 x60 x61 x62 x63 x64 x65 x66 x67 x68 x69 : Value, a' = (((((((((((a0.put (some 59) x59).put (some 60) x60).put (some 61) x61).put (some 62) x62).put (some 63) x63).put (some 64) x64).put (some 65) x65).put (some 66) x66).put (some 67) x67).put (some 68) x68).put (some 69) x69) ∧ (b 10 = false → lz_Un w0 w' g pm po l0 p2 0 a1 (.slice (some ad) out'.length cv) out') ∧ (b 9 = true → b 10 = false → ∃ gN, x68 = .slice (some ⟨gN, 0, none⟩) 1 1 ∧ w'.heap[gN]? = some (.cells #[.int .u8 x] 5 (0, 0))) ∧ (b 10 = true → b 11 = false → lz_UnA w0 w' g pm po l0 p2 0 a1 (.slice (some ad) out'.length cv) x69 (out' ++ [x])) ∧ (b 11 = true → lz_Un w0 w' g pm po l0 p2 0 a1 x69 (out' ++ [x])) ∧ (b 10 = true → b 9 = true) ∧ (b 9 = true → b 8 = true) ∧ (b 11 = true → ∀ j, j < 11 → b j = true) ∧ (b 0 = true → x59 = .slice (some ad) out'.length cv) ∧ (b 1 = true → x60 = .slice (some ad) out'.length cv) ∧ (b 2 = true → x61 = .slice (some ad) out'.length cv) ∧ (b 3 = true → x62 = .int .i64 (out'.length : Int)) ∧ (b 4 = true → x63 = .int .i64 ((out'.length : Int) - 1)) ∧ (b 5 = true → x64 = .int .i64 (farN : Int)) ∧ (b 6 = true → x65 = .int .i64 (j_ : Int)) ∧ (b 7 = true → x66 = .pointer (some (ad.add j_))) ∧ (b 8 = true → x67 = .int .u8 x)) (by kernel_rfl) (by kernel_rfl) ?start ⟨?op0, ?op1, ?op2, ?op3, ?op4, ?op5, ?op6, ?op7, ?op8, ?op9, ?op10, ?op11, trivial⟩ ?done
                            case start => exact ⟨_, _, _, _, _, _, _, _, _, _, _, by simp only [Act.put, List.setIfInBounds_toArray, List.set_cons_zero, List.set_cons_succ]; rfl, fun _ => HU4.out.next (below_drew1 (Below.refl _ _)), fun h => absurd h (by decide), fun h => absurd h (by decide), fun h => absurd h (by decide), fun h => absurd h (by decide), fun h => absurd h (by decide), fun h => absurd h (by decide), fun h => absurd h (by decide), fun h => absurd h (by decide), fun h => absurd h (by decide), fun h => absurd h (by decide), fun h => absurd h (by decide), fun h => absurd h (by decide), fun h => absurd h (by decide), fun h => absurd h (by decide), fun h => absurd h (by decide)⟩
                            case op0 =>
                              rintro bb _ w' ⟨x59, x60, x61, x62, x63, x64, x65, x66, x67, x68, x69, rfl, U0, S1, U2, U3, Q10, Q9, Q11, p59, p60, p61, p62, p63, p64, p65, p66, p67⟩ hb hd K hK
                              simp only [Act.put, List.setIfInBounds_toArray, List.set_cons_zero, List.set_cons_succ]
                              rw [if_pos (by rfl)]
                              have h11 : bb 11 = false := by cases h : bb 11 with | false => rfl | true => exact absurd (Q11 h 0 (by decide)) (by rw [hb]; decide)
                              have hpo : w'.cell? ⟨po, 0, none⟩ = some (.slice (some ad) out'.length cv) := lz_un_po2 U0 U2 h11
                              go_simp
                              exact hK _ _ ⟨.slice (some ad) out'.length cv, x60, x61, x62, x63, x64, x65, x66, x67, x68, x69, by simp only [Act.put, List.setIfInBounds_toArray, List.set_cons_zero, List.set_cons_succ], fun h => U0 (by simpa [upb] using h), fun h h2 => S1 (by simpa [upb] using h) (by simpa [upb] using h2), fun h h2 => U2 (by simpa [upb] using h) (by simpa [upb] using h2), fun h => absurd h (by simp [upb, h11]), fun h => lz_upb (Q10 (by simpa [upb] using h)), fun h => lz_upb (Q9 (by simpa [upb] using h)), fun h => absurd h (by simp [upb, h11]), fun _ => rfl, fun h => p60 (by simpa [upb] using h), fun h => p61 (by simpa [upb] using h), fun h => p62 (by simpa [upb] using h), fun h => p63 (by simpa [upb] using h), fun h => p64 (by simpa [upb] using h), fun h => p65 (by simpa [upb] using h), fun h => p66 (by simpa [upb] using h), fun h => p67 (by simpa [upb] using h)⟩
                            case op1 =>
                              rintro bb _ w' ⟨x59, x60, x61, x62, x63, x64, x65, x66, x67, x68, x69, rfl, U0, S1, U2, U3, Q10, Q9, Q11, p59, p60, p61, p62, p63, p64, p65, p66, p67⟩ hb hd K hK
                              simp only [Act.put, List.setIfInBounds_toArray, List.set_cons_zero, List.set_cons_succ]
                              rw [if_pos (by rfl)]
                              have h11 : bb 11 = false := by cases h : bb 11 with | false => rfl | true => exact absurd (Q11 h 1 (by decide)) (by rw [hb]; decide)
                              have hpo : w'.cell? ⟨po, 0, none⟩ = some (.slice (some ad) out'.length cv) := lz_un_po2 U0 U2 h11
                              go_simp
                              exact hK _ _ ⟨x59, .slice (some ad) out'.length cv, x61, x62, x63, x64, x65, x66, x67, x68, x69, by simp only [Act.put, List.setIfInBounds_toArray, List.set_cons_zero, List.set_cons_succ], fun h => U0 (by simpa [upb] using h), fun h h2 => S1 (by simpa [upb] using h) (by simpa [upb] using h2), fun h h2 => U2 (by simpa [upb] using h) (by simpa [upb] using h2), fun h => absurd h (by simp [upb, h11]), fun h => lz_upb (Q10 (by simpa [upb] using h)), fun h => lz_upb (Q9 (by simpa [upb] using h)), fun h => absurd h (by simp [upb, h11]), fun h => p59 (by simpa [upb] using h), fun _ => rfl, fun h => p61 (by simpa [upb] using h), fun h => p62 (by simpa [upb] using h), fun h => p63 (by simpa [upb] using h), fun h => p64 (by simpa [upb] using h), fun h => p65 (by simpa [upb] using h), fun h => p66 (by simpa [upb] using h), fun h => p67 (by simpa [upb] using h)⟩
                            case op2 =>
                              rintro bb _ w' ⟨x59, x60, x61, x62, x63, x64, x65, x66, x67, x68, x69, rfl, U0, S1, U2, U3, Q10, Q9, Q11, p59, p60, p61, p62, p63, p64, p65, p66, p67⟩ hb hd K hK
                              simp only [Act.put, List.setIfInBounds_toArray, List.set_cons_zero, List.set_cons_succ]
                              rw [if_pos (by rfl)]
                              have h11 : bb 11 = false := by cases h : bb 11 with | false => rfl | true => exact absurd (Q11 h 2 (by decide)) (by rw [hb]; decide)
                              have hpo : w'.cell? ⟨po, 0, none⟩ = some (.slice (some ad) out'.length cv) := lz_un_po2 U0 U2 h11
                              go_simp
                              exact hK _ _ ⟨x59, x60, .slice (some ad) out'.length cv, x62, x63, x64, x65, x66, x67, x68, x69, by simp only [Act.put, List.setIfInBounds_toArray, List.set_cons_zero, List.set_cons_succ], fun h => U0 (by simpa [upb] using h), fun h h2 => S1 (by simpa [upb] using h) (by simpa [upb] using h2), fun h h2 => U2 (by simpa [upb] using h) (by simpa [upb] using h2), fun h => absurd h (by simp [upb, h11]), fun h => lz_upb (Q10 (by simpa [upb] using h)), fun h => lz_upb (Q9 (by simpa [upb] using h)), fun h => absurd h (by simp [upb, h11]), fun h => p59 (by simpa [upb] using h), fun h => p60 (by simpa [upb] using h), fun _ => rfl, fun h => p62 (by simpa [upb] using h), fun h => p63 (by simpa [upb] using h), fun h => p64 (by simpa [upb] using h), fun h => p65 (by simpa [upb] using h), fun h => p66 (by simpa [upb] using h), fun h => p67 (by simpa [upb] using h)⟩
                            case op3 =>
                              rintro bb _ w' ⟨x59, x60, x61, x62, x63, x64, x65, x66, x67, x68, x69, rfl, U0, S1, U2, U3, Q10, Q9, Q11, p59, p60, p61, p62, p63, p64, p65, p66, p67⟩ hb hd K hK
                              simp only [Act.put, List.setIfInBounds_toArray, List.set_cons_zero, List.set_cons_succ]
                              obtain rfl := (p61 (hd 2 (by decide))).symm
                              rw [if_pos (by rfl)]
                              have h11 : bb 11 = false := by cases h : bb 11 with | false => rfl | true => exact absurd (Q11 h 3 (by decide)) (by rw [hb]; decide)
                              go_simp
                              exact hK _ _ ⟨x59, x60, .slice (some ad) out'.length cv, .int .i64 (out'.length : Int), x63, x64, x65, x66, x67, x68, x69, by simp only [Act.put, List.setIfInBounds_toArray, List.set_cons_zero, List.set_cons_succ], fun h => U0 (by simpa [upb] using h), fun h h2 => S1 (by simpa [upb] using h) (by simpa [upb] using h2), fun h h2 => U2 (by simpa [upb] using h) (by simpa [upb] using h2), fun h => absurd h (by simp [upb, h11]), fun h => lz_upb (Q10 (by simpa [upb] using h)), fun h => lz_upb (Q9 (by simpa [upb] using h)), fun h => absurd h (by simp [upb, h11]), fun h => p59 (by simpa [upb] using h), fun h => p60 (by simpa [upb] using h), fun _ => rfl, fun _ => rfl, fun h => p63 (by simpa [upb] using h), fun h => p64 (by simpa [upb] using h), fun h => p65 (by simpa [upb] using h), fun h => p66 (by simpa [upb] using h), fun h => p67 (by simpa [upb] using h)⟩
                            case op4 =>
                              rintro bb _ w' ⟨x59, x60, x61, x62, x63, x64, x65, x66, x67, x68, x69, rfl, U0, S1, U2, U3, Q10, Q9, Q11, p59, p60, p61, p62, p63, p64, p65, p66, p67⟩ hb hd K hK
                              simp only [Act.put, List.setIfInBounds_toArray, List.set_cons_zero, List.set_cons_succ]
                              obtain rfl := (p62 (hd 3 (by decide))).symm
                              rw [if_pos (by rfl)]
                              have h11 : bb 11 = false := by cases h : bb 11 with | false => rfl | true => exact absurd (Q11 h 4 (by decide)) (by rw [hb]; decide)
                              have hw : IntKind.i64.wrap ((out'.length : Int) - 1) = (out'.length : Int) - 1 := IntWalk.i64_in _ (by omega)
                              go_simp
                              exact hK _ _ ⟨x59, x60, x61, .int .i64 (out'.length : Int), .int .i64 ((out'.length : Int) - 1), x64, x65, x66, x67, x68, x69, by simp only [Act.put, List.setIfInBounds_toArray, List.set_cons_zero, List.set_cons_succ], fun h => U0 (by simpa [upb] using h), fun h h2 => S1 (by simpa [upb] using h) (by simpa [upb] using h2), fun h h2 => U2 (by simpa [upb] using h) (by simpa [upb] using h2), fun h => absurd h (by simp [upb, h11]), fun h => lz_upb (Q10 (by simpa [upb] using h)), fun h => lz_upb (Q9 (by simpa [upb] using h)), fun h => absurd h (by simp [upb, h11]), fun h => p59 (by simpa [upb] using h), fun h => p60 (by simpa [upb] using h), fun h => p61 (by simpa [upb] using h), fun _ => rfl, fun _ => rfl, fun h => p64 (by simpa [upb] using h), fun h => p65 (by simpa [upb] using h), fun h => p66 (by simpa [upb] using h), fun h => p67 (by simpa [upb] using h)⟩
                            case op5 =>
                              rintro bb _ w' ⟨x59, x60, x61, x62, x63, x64, x65, x66, x67, x68, x69, rfl, U0, S1, U2, U3, Q10, Q9, Q11, p59, p60, p61, p62, p63, p64, p65, p66, p67⟩ hb hd K hK
                              simp only [Act.put, List.setIfInBounds_toArray, List.set_cons_zero, List.set_cons_succ]
                              rw [if_pos (by rfl)]
                              have h11 : bb 11 = false := by cases h : bb 11 with | false => rfl | true => exact absurd (Q11 h 5 (by decide)) (by rw [hb]; decide)
                              go_simp
                              exact hK _ _ ⟨x59, x60, x61, x62, x63, .int .i64 (farN : Int), x65, x66, x67, x68, x69, by simp only [Act.put, List.setIfInBounds_toArray, List.set_cons_zero, List.set_cons_succ], fun h => U0 (by simpa [upb] using h), fun h h2 => S1 (by simpa [upb] using h) (by simpa [upb] using h2), fun h h2 => U2 (by simpa [upb] using h) (by simpa [upb] using h2), fun h => absurd h (by simp [upb, h11]), fun h => lz_upb (Q10 (by simpa [upb] using h)), fun h => lz_upb (Q9 (by simpa [upb] using h)), fun h => absurd h (by simp [upb, h11]), fun h => p59 (by simpa [upb] using h), fun h => p60 (by simpa [upb] using h), fun h => p61 (by simpa [upb] using h), fun h => p62 (by simpa [upb] using h), fun h => p63 (by simpa [upb] using h), fun _ => rfl, fun h => p65 (by simpa [upb] using h), fun h => p66 (by simpa [upb] using h), fun h => p67 (by simpa [upb] using h)⟩
                            case op6 =>
                              rintro bb _ w' ⟨x59, x60, x61, x62, x63, x64, x65, x66, x67, x68, x69, rfl, U0, S1, U2, U3, Q10, Q9, Q11, p59, p60, p61, p62, p63, p64, p65, p66, p67⟩ hb hd K hK
                              simp only [Act.put, List.setIfInBounds_toArray, List.set_cons_zero, List.set_cons_succ]
                              obtain rfl := (p63 (hd 4 (by decide))).symm
                              obtain rfl := (p64 (hd 5 (by decide))).symm
                              rw [if_pos (by rfl)]
                              have h11 : bb 11 = false := by cases h : bb 11 with | false => rfl | true => exact absurd (Q11 h 6 (by decide)) (by rw [hb]; decide)
                              have hw : IntKind.i64.wrap ((out'.length : Int) - 1 - farN) = (j_ : Int) := by rw [IntWalk.i64_in _ (by omega)]; omega
                              go_simp
                              exact hK _ _ ⟨x59, x60, x61, x62, .int .i64 ((out'.length : Int) - 1), .int .i64 (farN : Int), .int .i64 (j_ : Int), x66, x67, x68, x69, by simp only [Act.put, List.setIfInBounds_toArray, List.set_cons_zero, List.set_cons_succ], fun h => U0 (by simpa [upb] using h), fun h h2 => S1 (by simpa [upb] using h) (by simpa [upb] using h2), fun h h2 => U2 (by simpa [upb] using h) (by simpa [upb] using h2), fun h => absurd h (by simp [upb, h11]), fun h => lz_upb (Q10 (by simpa [upb] using h)), fun h => lz_upb (Q9 (by simpa [upb] using h)), fun h => absurd h (by simp [upb, h11]), fun h => p59 (by simpa [upb] using h), fun h => p60 (by simpa [upb] using h), fun h => p61 (by simpa [upb] using h), fun h => p62 (by simpa [upb] using h), fun _ => rfl, fun _ => rfl, fun _ => rfl, fun h => p66 (by simpa [upb] using h), fun h => p67 (by simpa [upb] using h)⟩
                            case op7 =>
                              rintro bb _ w' ⟨x59, x60, x61, x62, x63, x64, x65, x66, x67, x68, x69, rfl, U0, S1, U2, U3, Q10, Q9, Q11, p59, p60, p61, p62, p63, p64, p65, p66, p67⟩ hb hd K hK
                              simp only [Act.put, List.setIfInBounds_toArray, List.set_cons_zero, List.set_cons_succ]
                              obtain rfl := (p60 (hd 1 (by decide))).symm
                              obtain rfl := (p65 (hd 6 (by decide))).symm
                              rw [if_pos (by rfl)]
                              have h11 : bb 11 = false := by cases h : bb 11 with | false => rfl | true => exact absurd (Q11 h 7 (by decide)) (by rw [hb]; decide)
                              have hj0 : (j_ : Int) < out'.length := by omega
                              go_simp
                              exact hK _ _ ⟨x59, .slice (some ad) out'.length cv, x61, x62, x63, x64, .int .i64 (j_ : Int), .pointer (some (ad.add j_)), x67, x68, x69, by simp only [Act.put, List.setIfInBounds_toArray, List.set_cons_zero, List.set_cons_succ], fun h => U0 (by simpa [upb] using h), fun h h2 => S1 (by simpa [upb] using h) (by simpa [upb] using h2), fun h h2 => U2 (by simpa [upb] using h) (by simpa [upb] using h2), fun h => absurd h (by simp [upb, h11]), fun h => lz_upb (Q10 (by simpa [upb] using h)), fun h => lz_upb (Q9 (by simpa [upb] using h)), fun h => absurd h (by simp [upb, h11]), fun h => p59 (by simpa [upb] using h), fun _ => rfl, fun h => p61 (by simpa [upb] using h), fun h => p62 (by simpa [upb] using h), fun h => p63 (by simpa [upb] using h), fun h => p64 (by simpa [upb] using h), fun _ => rfl, fun _ => rfl, fun h => p67 (by simpa [upb] using h)⟩
                            case op8 =>
                              rintro bb _ w' ⟨x59, x60, x61, x62, x63, x64, x65, x66, x67, x68, x69, rfl, U0, S1, U2, U3, Q10, Q9, Q11, p59, p60, p61, p62, p63, p64, p65, p66, p67⟩ hb hd K hK
                              simp only [Act.put, List.setIfInBounds_toArray, List.set_cons_zero, List.set_cons_succ]
                              obtain rfl := (p66 (hd 7 (by decide))).symm
                              rw [if_pos (by rfl)]
                              have h11 : bb 11 = false := by cases h : bb 11 with | false => rfl | true => exact absurd (Q11 h 8 (by decide)) (by rw [hb]; decide)
                              have h10 : bb 10 = false := by cases h : bb 10 with | false => rfl | true => exact absurd (Q9 (Q10 h)) (by rw [hb]; decide)
                              have hx := lz_un_cell (U0 h10) HJ.out HX.out
                              go_simp
                              exact hK _ _ ⟨x59, x60, x61, x62, x63, x64, x65, .pointer (some (ad.add j_)), .int .u8 x, x68, x69, by simp only [Act.put, List.setIfInBounds_toArray, List.set_cons_zero, List.set_cons_succ], fun h => U0 (by simpa [upb] using h), fun h h2 => S1 (by simpa [upb] using h) (by simpa [upb] using h2), fun h h2 => U2 (by simpa [upb] using h) (by simpa [upb] using h2), fun h => absurd h (by simp [upb, h11]), fun h => lz_upb (Q10 (by simpa [upb] using h)), fun h => lz_upb (Q9 (by simpa [upb] using h)), fun h => absurd h (by simp [upb, h11]), fun h => p59 (by simpa [upb] using h), fun h => p60 (by simpa [upb] using h), fun h => p61 (by simpa [upb] using h), fun h => p62 (by simpa [upb] using h), fun h => p63 (by simpa [upb] using h), fun h => p64 (by simpa [upb] using h), fun h => p65 (by simpa [upb] using h), fun _ => rfl, fun _ => rfl⟩
                            case op9 =>
                              rintro bb _ w' ⟨x59, x60, x61, x62, x63, x64, x65, x66, x67, x68, x69, rfl, U0, S1, U2, U3, Q10, Q9, Q11, p59, p60, p61, p62, p63, p64, p65, p66, p67⟩ hb hd K hK
                              simp only [Act.put, List.setIfInBounds_toArray, List.set_cons_zero, List.set_cons_succ]
                              obtain rfl := (p67 (hd 8 (by decide))).symm
                              rw [if_pos (by rfl)]
                              have h11 : bb 11 = false := by cases h : bb 11 with | false => rfl | true => exact absurd (Q11 h 9 (by decide)) (by rw [hb]; decide)
                              go_simp
                              exact hK _ _ ⟨x59, x60, x61, x62, x63, x64, x65, x66, .int .u8 x, .slice (some ⟨w'.heap.size, 0, none⟩) 1 1, x69, by simp only [Act.put, List.setIfInBounds_toArray, List.set_cons_zero, List.set_cons_succ], fun h => (U0 (by simpa [upb] using h)).next (below_alloc (Below.refl _ _) _), fun _ _ => ⟨_, rfl, heap_alloc_new _ _⟩, fun h h2 => absurd (Q10 (by simpa [upb] using h)) (by rw [hb]; decide), fun h => absurd h (by simp [upb, h11]), fun _ => by simp [upb], fun _ => lz_upb (hd 8 (by decide)), fun h => absurd h (by simp [upb, h11]), fun h => p59 (by simpa [upb] using h), fun h => p60 (by simpa [upb] using h), fun h => p61 (by simpa [upb] using h), fun h => p62 (by simpa [upb] using h), fun h => p63 (by simpa [upb] using h), fun h => p64 (by simpa [upb] using h), fun h => p65 (by simpa [upb] using h), fun h => p66 (by simpa [upb] using h), fun _ => rfl⟩
                            case op10 =>
                              rintro bb _ w' ⟨x59, x60, x61, x62, x63, x64, x65, x66, x67, x68, x69, rfl, U0, S1, U2, U3, Q10, Q9, Q11, p59, p60, p61, p62, p63, p64, p65, p66, p67⟩ hb hd K hK
                              simp only [Act.put, List.setIfInBounds_toArray, List.set_cons_zero, List.set_cons_succ]
                              obtain rfl := (p59 (hd 0 (by decide))).symm
                              rw [if_pos (by rfl)]
                              have h11 : bb 11 = false := by cases h : bb 11 with | false => rfl | true => exact absurd (Q11 h 10 (by decide)) (by rw [hb]; decide)
                              obtain ⟨gN, e13, hNN⟩ := S1 (hd 9 (by decide)) hb
                              subst e13
                              obtain ⟨i0, hi, hz0, hz1, hz2⟩ := info_parts info5
                              have hU5 := U0 hb
                              have hown := Kd.own_of_R hU5.out
                              refine wp_append_lies _ (.tmp 59) (.tmp 68) 22 rfl w0.heap.size 5 i0 (.int .u8 0) 1 1 Tryd.underlying22 hi hz0 hz1 hz2 rfl (by decide) (.slice (some ad) out'.length cv) out'.length _ (by rfl) hown ⟨gN, 0, none⟩ 1 1 [.int .u8 x] (by rfl) rfl (fun j u hj => by rw [add_plain]; exact lz_one_cell hNN hj) (by simp [Value.oneCell']) (by decide) (by unfold maxLen; omega) (by omega) hU5.hb.size w'.heap.size rfl ?_
                              intro g1 cap w2 hown2 hgr hat hlt2
                              have hR2 : Kd.R (Kd.int .u8) 5 w2 w0.heap.size (fun _ => True) (.slice (some ⟨g1, 0, none⟩) (out'.length + 1) cap) (out' ++ [x]) := wire_R_of_own (by simp [encs]) hown2
                              have hU6 := hU5.app hR2 (pw_below_grown hU5.hb _ hU5.hb.size hgr (Kd.R_base hU5.out)) hgr
                              exact hK _ _ ⟨.slice (some ad) out'.length cv, x60, x61, x62, x63, x64, x65, x66, x67, .slice (some ⟨gN, 0, none⟩) 1 1, .slice (some ⟨g1, 0, none⟩) (out'.length + 1) cap, by simp only [Act.put, List.setIfInBounds_toArray, List.set_cons_zero, List.set_cons_succ], fun h => absurd h (by simp [upb]), fun _ h => absurd h (by simp [upb]), fun _ _ => hU6, fun h => absurd h (by simp [upb, h11]), fun _ => lz_upb (hd 9 (by decide)), fun h => lz_upb (Q9 (by simpa [upb] using h)), fun h => absurd h (by simp [upb, h11]), fun _ => rfl, fun h => p60 (by simpa [upb] using h), fun h => p61 (by simpa [upb] using h), fun h => p62 (by simpa [upb] using h), fun h => p63 (by simpa [upb] using h), fun h => p64 (by simpa [upb] using h), fun h => p65 (by simpa [upb] using h), fun h => p66 (by simpa [upb] using h), fun h => p67 (by simpa [upb] using h)⟩
                            case op11 =>
                              rintro bb _ w' ⟨x59, x60, x61, x62, x63, x64, x65, x66, x67, x68, x69, rfl, U0, S1, U2, U3, Q10, Q9, Q11, p59, p60, p61, p62, p63, p64, p65, p66, p67⟩ hb hd K hK
                              simp only [Act.put, List.setIfInBounds_toArray, List.set_cons_zero, List.set_cons_succ]
                              rw [if_pos (by rfl)]
                              have hU6 := U2 (hd 10 (by decide)) hb
                              have hU7 := hU6.store
                              have hc3 : w'.cell? ⟨po, 0, none⟩ = some (.slice (some ad) out'.length cv) := blk_cell hU6.o 0
                              have hf3 : w'.frozen? ⟨po, 0, none⟩ = false := blk_frozen hU6.o 0
                              obtain ⟨a6, c6, e6, -, -⟩ := Kd.R_reads hU6.out
                              obtain ⟨n6, hn6⟩ : ∃ n6, (out' ++ [x]).length = n6 := ⟨_, rfl⟩
                              rw [hn6] at e6
                              subst e6
                              go_simp
                              exact hK _ _ ⟨x59, x60, x61, x62, x63, x64, x65, x66, x67, x68, .slice a6 n6 c6, by simp only [Act.put, List.setIfInBounds_toArray, List.set_cons_zero, List.set_cons_succ], fun h => absurd (hd 10 (by decide)) (by simpa [upb] using h), fun _ h => absurd (hd 10 (by decide)) (by simpa [upb] using h), fun _ h => absurd h (by simp [upb]), fun _ => hU7, fun h => lz_upb (Q10 (by simpa [upb] using h)), fun h => lz_upb (Q9 (by simpa [upb] using h)), fun _ j hj => lz_upb (hd j (lz_memn 11 _ (by decide) j hj)), fun h => p59 (by simpa [upb] using h), fun h => p60 (by simpa [upb] using h), fun h => p61 (by simpa [upb] using h), fun h => p62 (by simpa [upb] using h), fun h => p63 (by simpa [upb] using h), fun h => p64 (by simpa [upb] using h), fun h => p65 (by simpa [upb] using h), fun h => p66 (by simpa [upb] using h), fun h => p67 (by simpa [upb] using h)⟩
                            case done =>
                              rintro bb _ w' hb ⟨x59, x60, x61, x62, x63, x64, x65, x66, x67, x68, x69, rfl, U0, S1, U2, U3, Q10, Q9, Q11, p59, p60, p61, p62, p63, p64, p65, p66, p67⟩
                              obtain rfl := (p59 (hb 0 (by decide))).symm
                              obtain rfl := (p60 (hb 1 (by decide))).symm
                              obtain rfl := (p61 (hb 2 (by decide))).symm
                              obtain rfl := (p62 (hb 3 (by decide))).symm
                              obtain rfl := (p63 (hb 4 (by decide))).symm
                              obtain rfl := (p64 (hb 5 (by decide))).symm
                              obtain rfl := (p65 (hb 6 (by decide))).symm
                              obtain rfl := (p66 (hb 7 (by decide))).symm
                              obtain rfl := (p67 (hb 8 (by decide))).symm
                              simp only [Act.put, List.setIfInBounds_toArray, List.set_cons_zero, List.set_cons_succ]
                              have HU5 := Lib.hid (U3 (hb 11 (by decide)))
                              clear U0 S1 U2 U3 Q9 Q10 Q11 hb
                              go_wp2_with fail
                              exact ⟨⟨i + 1, _, _, by go_num, by omega, by simp only [List.length_append, List.length_singleton]; have := HOL.out; omega, HU5, HTG2⟩, by simp [intOf] <;> omega⟩
                        · obtain rfl : i = N := by omega
                          have d6 : decide ((i : Int) < k / 2 + 3) = false := by have := HN.out; simp; omega
                          have hE6 := wire_Err_ro g l0 (p2 : Int) 0 w0 _ HU6.out.rd
                          have HER6 := Lib.hid hE6
                          have HNX := Lib.hid (lz_un_next HU6.out HTG.out HE2.out hol (by have := HN.out; omega) (lz_un_far2 HV2.out) hp2 hlt hf HPOS.out hob (by have := HN.out; omega))
                          clear hE6
                          go_wp2_with fail
                          refine HER6.out.mono ?_; rintro e w7 ⟨rfl, rfl⟩
                          go_wp2_with fail
                          exact HNX.out
                  · have RM := Lib.hid (lz_room_calls w0 w4 g pm po l0 p2 0 a1 (k / 2 + 3) _ out HU4.out ha (by omega) false (by simp; omega))
                    have HE := Lib.hid (lz_un_far_full HV1.out HV2.out hfl h4 h5 (by omega) HF.out HCONS.out (by omega) HK2.out)
                    go_wp2_with fail
                    refine HER.out.mono ?_; rintro e w5 ⟨rfl, rfl⟩
                    go_wp2_with fail
                    refine HER.out.mono ?_; rintro e w5 ⟨rfl, rfl⟩
                    go_wp2_with fail
                    refine RM.out.mono ?_; rintro e w5 ⟨rfl, rfl⟩
                    go_wp2_with fail
                    go_ret2
                    exact lz_un_ret HE.out HU4.out.hb
          · have d3 : (e2 == 0) = false := by simp [he2]
            have d4 : (e2 != 0) = true := by simp [he2]
            have HE := Lib.hid (lz_un_err HCASE.out he2 HF.out HCONS.out (by omega) HK2.out)
            clear he2
            go_wp2_with fail
            refine HER.out.mono ?_; rintro e w5 ⟨rfl, rfl⟩
            go_wp2_with fail
            refine HER.out.mono ?_; rintro e w5 ⟨rfl, rfl⟩
            go_wp2_with fail
            refine HER.out.mono ?_; rintro e w5 ⟨rfl, rfl⟩
            go_wp2_with fail
            refine HER.out.mono ?_; rintro e w5 ⟨rfl, rfl⟩
            go_wp2_with fail
            refine HER.out.mono ?_; rintro e w5 ⟨rfl, rfl⟩
            go_wp2_with fail
            go_ret2
            exact lz_un_ret HE.out HU4.out.hb
    · have d0 : decide ((0 : Int) < (l0.length : Int) - p) = false := by simp; omega
      have HE : Hid ((out, 0) = R) := Lib.hid (by rw [← HF.out, List.drop_of_length_le (by omega), lz_un_nil])
      have ko : wr.cell? ⟨po, 0, none⟩ = some vo := blk_cell HU.out.o 0
      go_wp2_with fail
      refine LF.out.mono ?_; rintro e w2 ⟨rfl, n2, rfl⟩
      go_wp2_with fail
      go_ret2
      have hU2 := HU.out.next (pw_below_drewN (Below.refl wr.heap.size wr) n2)
      refine ⟨vo, by rw [← HE.out]; rfl, by rw [← HE.out]; exact hU2.out, hU2.hb⟩
end Go.Proofs.YtigcgdhihaibbaaDoor.PLzG
