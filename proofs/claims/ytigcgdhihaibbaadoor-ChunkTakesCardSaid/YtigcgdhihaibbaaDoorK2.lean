/- Chunk: Put's walk. No condition of its own. -/
import Derived.Test.YtigcgdhihaibbaaDoorK1
import Derived.Test.YtigcgdhihaibbaaDoorZW
import Derived.Test.YtigcgdhihaibbaaDoorZB
namespace Go.Proofs.YtigcgdhihaibbaaDoor.PLz
open Go.RowKit Go.Proofs.YtigcgdhihaibbaaDoorW.PrintWords Go.Proofs.YtigcgdhihaibbaaDoorW.PrintLast Go.Proofs.YtigcgdhihaibbaaDoorW.PrintMore
attribute [local go_sem] max2_int min2_int max_two min_two max_three min_three max_four min_four   -- for this text's walks alone
set_option linter.unusedVariables false
set_option linter.unusedSimpArgs false
set_option maxHeartbeats 4000000
set_option maxRecDepth 20000

theorem ck_fn (Bo Bn n : Nat) (A : Option Addr) (c : Nat) (R : List Int) (W : World) (hO : W.cell? ⟨Bo, 0, none⟩ = some (.slice A R.length c)) (hN : W.cell? ⟨Bn, 0, none⟩ = some (.int .i64 (n : Int))) (hn : n ≤ R.length)
    (hC : Kd.C (Kd.int .u8) W A R.length R) (hc : R.length ≤ c) (hB : IsB R) (hl : R.length ≤ 1000000) (hT : Tab W) :
    Calls Tryd.prog 15 #[.pointer (some ⟨Bo, 0, none⟩), .pointer (some ⟨Bn, 0, none⟩)] W fun e w' => e = .returned (.int .u32 (ck_crc (R.drop n))) ∧ w' = W := by
  obtain ⟨A1, hcut, hC1, hc1⟩ := ck_cut A c R n hn hc
  have hz0 := ck_crc_calls A1 (c - n) (R.drop n) W (hC1 W hC) (isB_drop hB n) (by rw [List.length_drop]; omega) hT
  have HZ := Lib.hid hz0
  clear hz0 hC1 hc1 hC hT hB
  obtain ⟨D, hD⟩ : ∃ D, R.drop n = D := ⟨_, rfl⟩
  rw [hD] at hcut HZ ⊢
  clear hD
  go_enter Tryd.func15, Tryd.ntmps15
  go_wp2_with fail
  refine HZ.out.mono ?_; rintro e w1 ⟨rfl, rfl⟩
  go_wp2_with fail
  go_ret
  exact ⟨rfl, rfl⟩
def ck_how (data : List Int) : Int := if (lz_pack data).length < data.length then 1 else 0
def ck_body (data : List Int) : List Int := if (lz_pack data).length < data.length then lz_pack data else data
def ck_main (kind : Int) (data : List Int) : List Int := [kind, ck_how data] ++ wire_vb 9 (data.length : Nat) ++ wire_vb 9 ((ck_body data).length : Nat) ++ ck_body data
def ck_fix (n : Int) : List Int := [n / 16777216, n / 65536 % 256, n / 256 % 256, n % 256]
/-- a chunk's bytes -/
def ck_put (kind : Int) (data : List Int) : List Int := ck_main kind data ++ ck_fix (ck_crc (ck_main kind data))
structure ck_St (w W : World) (Bo Bn : Nat) (v : Value) (out : List Int) (n : Nat) : Prop where
  o : W.heap[Bo]? = some (.cells #[v] 22 (0, 0))
  n : W.heap[Bn]? = some (.cells #[.int .i64 (n : Int)] 3 (0, 0))
  hb : Below w.heap.size w W
  out : Kd.R (Kd.int .u8) 5 W w.heap.size (fun _ => True) v out
  ob : w.heap.size ≤ Bo
  nb : w.heap.size ≤ Bn
theorem ck_St.put {w W w' : World} {Bo Bn : Nat} {v v' : Value} {out out' : List Int} {n : Nat} (h : ck_St w W Bo Bn v out n) (hK : KeepBut W w' W.heap.size v.ownBlock) (hB : Below w.heap.size w w') (hR : Kd.R (Kd.int .u8) 5 w' w.heap.size (fun _ => True) v' out') :
    ck_St w (w'.setCell ⟨Bo, 0, none⟩ v') Bo Bn v' out' n := by
  have hbo := blk_lt h.o
  have hbn := blk_lt h.n
  have hro : some Bo ≠ v.ownBlock := Kd.R_ne h.out h.o (by decide)
  have hrn : some Bn ≠ v.ownBlock := Kd.R_ne h.out h.n (by decide)
  have ho : w'.heap[Bo]? = some (.cells #[v] 22 (0, 0)) := (hK.2 Bo hbo (by omega) hro).trans h.o
  have hn : w'.heap[Bn]? = some (.cells #[.int .i64 (n : Int)] 3 (0, 0)) := (hK.2 Bn hbn (by omega) hrn).trans h.n
  refine ⟨by simpa using blk_set ho 0 v', ?_, hB.setCell h.ob _, Kd.R_mono (Kd.R_set hR ho (by simp [Kd.E, Kd.int, Kd.scalar]) 0 _) (fun _ _ => trivial), h.ob, h.nb⟩
  exact blk_far hn (p := ⟨Bo, 0, none⟩) (blk_ne hn ho (by decide)) v'
theorem ck_St.cellO {w W : World} {Bo Bn : Nat} {v : Value} {out : List Int} {n : Nat} (h : ck_St w W Bo Bn v out n) : W.cell? ⟨Bo, 0, none⟩ = some v := blk_cell h.o 0
theorem ck_St.cellN {w W : World} {Bo Bn : Nat} {v : Value} {out : List Int} {n : Nat} (h : ck_St w W Bo Bn v out n) : W.cell? ⟨Bn, 0, none⟩ = some (.int .i64 (n : Int)) := blk_cell h.n 0
theorem ck_box {w W : World} (v : Value) (out : List Int) (n : Nat) (hB : Below w.heap.size w W) (hR : Kd.R (Kd.int .u8) 5 W w.heap.size (fun _ => True) v out) :
    ck_St w ((W.alloc (.cells #[v] 22)).alloc (.cells #[.int .i64 (n : Int)] 3)) W.heap.size (W.heap.size + 1) v out n := by
  have h0 := blk_new W (.cells #[v] 22)
  have h1 := blk_new (W.alloc (.cells #[v] 22)) (.cells #[.int .i64 (n : Int)] 3)
  rw [World.size_alloc] at h1
  have hs := hB.size
  have hb1 := below_alloc hB (.cells #[v] 22)
  refine ⟨(Below.heap_alloc _ _ _ (by simp)).trans h0, h1, below_alloc hb1 _, Kd.R_below (Kd.R_below hR (below_alloc (Below.refl _ _) _)) (below_alloc (Below.refl _ _) _), hs, by omega⟩
theorem ck_keep {W3 W4 w5 : World} {row : Option Nat} (h4 : Below W3.heap.size W3 W4) (g : W4.grownBy w5 row) : KeepBut W3 w5 W3.heap.size row :=
  ⟨Nat.le_trans h4.size g.size, fun i hi _ hr => (g.block i (Nat.lt_of_lt_of_le hi h4.size) hr).trans (h4.block i hi)⟩
theorem ck_vb_len : ∀ (k : Nat) (n : Int), (wire_vb k n).length ≤ k + 1
  | 0, n => by rw [wire_vb]; simp
  | k + 1, n => by
    rw [wire_vb]
    split
    · have := ck_vb_len k (n / 128)
      rw [List.length_cons]
      omega
    · simp
theorem ck_vb_bytes : ∀ (k : Nat) (n : Int), 0 ≤ n → IsB (wire_vb k n)
  | 0, n, h => by intro x hx; rw [wire_vb] at hx; simp at hx; subst hx; omega
  | k + 1, n, h => by
    rw [wire_vb]
    split
    · intro x hx
      rcases List.mem_cons.1 hx with rfl | hx
      · omega
      · exact ck_vb_bytes k _ (by omega) x hx
    · intro x hx; simp at hx; subst hx; omega
theorem ck_put_f (l : List Int) (n : Nat) (hl : l.length ≤ 1000000) (hn : n ≤ 1000000) : wire_Put.f l (n : Int) = some (l ++ wire_vb 9 (n : Int)) := by
  unfold wire_Put.f
  rw [if_pos (by omega)]
theorem ck_store {w W w' : World} {Bo Bn : Nat} {v : Value} {out : List Int} {n : Nat} (h : ck_St w W Bo Bn v out n) (hK : KeepBut W w' W.heap.size v.ownBlock) : w'.cell? ⟨Bo, 0, none⟩ = some v :=
  blk_cell ((hK.2 Bo (blk_lt h.o) (by have := blk_lt h.o; omega) (Kd.R_ne h.out h.o (by decide))).trans h.o) 0
theorem ck_frozen {w W w' : World} {Bo Bn : Nat} {v : Value} {out : List Int} {n : Nat} (h : ck_St w W Bo Bn v out n) (hK : KeepBut W w' W.heap.size v.ownBlock) : w'.frozen? ⟨Bo, 0, none⟩ = false :=
  blk_frozen ((hK.2 Bo (blk_lt h.o) (by have := blk_lt h.o; omega) (Kd.R_ne h.out h.o (by decide))).trans h.o) 0
theorem wire_R_C {W : World} {b e : Nat} {ok : Nat → Prop} {A : Option Addr} {c : Nat} {xs : List Int} (h : Kd.R (Kd.int .u8) e W b ok (.slice A xs.length c) xs) : Kd.C (Kd.int .u8) W A xs.length xs := by
  obtain ⟨A', c', e1, q, C⟩ := wire_form h
  injection e1 with e2 e3 e4
  subst e2
  exact C
theorem ck_Put_calls (A0 : Option Addr) (c0 : Nat) (b_ : List Int) (kind : Int) (A2 : Option Addr) (c2 : Nat) (data : List Int) (w : World) (hr0 : Kd.C (Kd.int .u8) w A0 b_.length b_) (hc0 : b_.length ≤ c0) (hr2 : Kd.C (Kd.int .u8) w A2 data.length data) (hc2 : data.length ≤ c2)
    (hb : IsB b_) (hbl : b_.length ≤ 100000) (hk : 0 ≤ kind ∧ kind < 256) (hd : IsB data) (hdl : data.length ≤ 100000) (hT : Tab w) (R : List Int) (hR : b_ ++ ck_put kind data = R) :
    Calls Tryd.prog 7 #[.slice A0 b_.length c0, .int .u8 kind, .slice A2 data.length c2] w fun e w' => ∃ A c, e = .returned (.slice A R.length c) ∧ R.length ≤ c ∧ Kd.R (Kd.int .u8) 5 w' w.heap.size (fun _ => True) (.slice A R.length c) R ∧ Below w.heap.size w w' := by
  have HR0 := Lib.hid hr0
  have HR2 := Lib.hid hr2
  have HT := Lib.hid hT
  have HR := Lib.hid hR
  obtain ⟨P, hP⟩ : ∃ P, lz_pack data = P := ⟨_, rfl⟩
  have hpf : lz_Pack.f data = some P := by
    unfold lz_Pack.f
    rw [if_pos ⟨by omega, by unfold wire_bytes; rw [List.all_eq_true]; exact fun x hx => decide_eq_true (hd x hx)⟩, hP]
  have HPF := Lib.hid hpf
  have HP := Lib.hid hP
  have HD := Lib.hid hd
  have HBB := Lib.hid hb
  clear hr0 hr2 hT hR hpf hP hd hb
  by_cases hlt : P.length < data.length
  · skip
    have hlt' : (P.length : Int) < data.length := by omega
    go_enter Tryd.func7, Tryd.ntmps7
    go_wp2_with fail
    refine (lz_Pack.calls A2 c2 data P w HR2.out hc2 HPF.out).mono ?_; rintro e w1 ⟨v1, rfl, R1, b1⟩
    obtain ⟨A1, c1, rfl, q1, C1⟩ := wire_form R1
    have HB1 := Lib.hid b1
    have HR0 := Lib.hid (Kd.C_below HR0.out b1)
    have HT := Lib.hid (HT.out.keep b1)
    have HC1 := Lib.hid C1
    clear R1 b1 C1
    go_wp2_with fail
    refine (wire_clone A0 c0 b_ w1 HR0.out hc0 (by omega)).mono ?_; rintro e w2 ⟨v2, rfl, R2, b2⟩
    obtain ⟨A2', c2', rfl, q2, C2⟩ := wire_form R2
    have HS := Lib.hid (ck_box (.slice A2' b_.length c2') b_ b_.length b2 R2)
    obtain ⟨Bo, hBo⟩ : ∃ Bo, w2.heap.size = Bo := ⟨_, rfl⟩
    obtain ⟨W3, hW3⟩ : ∃ W3, (w2.alloc (.cells #[.slice A2' b_.length c2'] 22)).alloc (.cells #[.int .i64 (b_.length : Int)] 3) = W3 := ⟨_, rfl⟩
    have hsz : W3.heap.size = w2.heap.size + 1 + 1 := by rw [← hW3]; simp
    rw [hW3] at HS
    rw [hBo] at HS hsz
    obtain ⟨W4, hW4⟩ : ∃ W4, W3.alloc (.cells #[.int .u8 kind, .int .u8 1] 5) = W4 := ⟨_, rfl⟩
    have hb4 : Below W3.heap.size W3 W4 := by rw [← hW4]; exact below_alloc (Below.refl _ _) _
    have hB4 := Lib.hid (below_then HS.out.hb HS.out.hb.size hb4)
    have HK4 := Lib.hid hb4
    have R4 := Lib.hid (Kd.R_below HS.out.out hb4)
    have lit := wire_lit (l := [kind, 1]) (e := 5) (fr := (0, 0)) (W := W4) (g := Bo + 1 + 1) (by rw [← hW4, ← hsz]; exact blk_new W3 _) (by simp)
    have LIT := Lib.hid lit
    have HW := Lib.hid (show ((w2.alloc (.cells #[.slice A2' b_.length c2'] 22)).alloc (.cells #[.int .i64 (b_.length : Int)] 3)).alloc (.cells #[.int .u8 kind, .int .u8 1] 5) = W4 by rw [hW3, hW4])
    obtain ⟨o1, ho1⟩ : ∃ o, b_ ++ [kind, 1] = o := ⟨_, rfl⟩
    have HO1 := Lib.hid ho1
    have HL1 := Lib.hid (show o1.length = b_.length + 2 by rw [← ho1]; simp)
    have hu1 : IntKind.u64.wrap (data.length : Int) = data.length := by rw [IntKind.wrap_u64]; omega
    have hu2 : IntKind.u64.wrap (P.length : Int) = P.length := by rw [IntKind.wrap_u64]; omega
    clear R2 C2 b2 hW3 hW4 hb4 lit hsz ho1
    go_wp2_with (first
      | (at_builtin; rw [HW.out]; refine Kd.R_append_row (Value.int .u8) (0 : Int) (w0 := w1) w1.heap.size rfl (.tmp 27) (.tmp 30) 22 5 (.int .u8 0) 1 rfl Tryd.underlying22 info5 rfl (by decide) _ b_ [kind, 1] (some ⟨Bo + 1 + 1, 0, none⟩) 2 2 (fun _ => True) rfl rfl (fun _ _ => trivial) R4.out LIT.out hB4.out hB4.out.size (by simp; omega) ?_; intro v5 w5 R5 b5 g5 _; rw [HO1.out] at R5; obtain ⟨A5, c5, rfl, q5, C5⟩ := wire_form R5; have K5 := Lib.hid (ck_keep HK4.out (show W4.grownBy w5 (Value.slice A2' b_.length c2').ownBlock from g5)); have BB5 := Lib.hid b5; clear g5 b5; have k5 := ck_store HS.out K5.out; have kf5 := ck_frozen HS.out K5.out; have S5 := Lib.hid (HS.out.put K5.out BB5.out R5); have k5b := S5.out.cellO; clear R5 C5))
    clear k5 kf5 k5b
    obtain ⟨W5, hW5⟩ : ∃ W5, w5.setCell ⟨Bo, 0, none⟩ (.slice A5 o1.length c5) = W5 := ⟨_, rfl⟩
    rw [hW5] at S5 ⊢
    clear hW5 hBo HS HK4 R4 LIT HW hB4 K5 BB5
    obtain ⟨o2, ho2⟩ : ∃ o, o1 ++ wire_vb 9 (data.length : Int) = o := ⟨_, rfl⟩
    have HO2 := Lib.hid ho2
    have HL2 := Lib.hid (show o2.length ≤ b_.length + 12 by rw [← ho2, List.length_append]; have := ck_vb_len 9 (data.length : Int); have := HL1.out; omega)
    have HP2 := Lib.hid (show wire_Put.f o1 (data.length : Int) = some o2 by rw [← ho2]; exact ck_put_f o1 data.length (by have := HL1.out; omega) (by omega))
    clear ho2
    refine (wire_Put.calls A5 c5 o1 (data.length : Int) o2 W5 (wire_R_C S5.out.out) q5 HP2.out).mono ?_; rintro e w6 ⟨v6, rfl, R6, b6⟩
    obtain ⟨A6, c6, rfl, q6, C6⟩ := wire_form R6
    have K6 := Lib.hid (KeepBut.of_below b6 W5.heap.size (Value.slice A5 o1.length c5).ownBlock)
    have k6 := ck_store S5.out K6.out
    have kf6 := ck_frozen S5.out K6.out
    have S6 := Lib.hid (S5.out.put K6.out (below_then S5.out.hb S5.out.hb.size b6) (wire_R_lower R6 S5.out.hb.size))
    have k6b := S6.out.cellO
    clear R6 C6 b6 S5
    go_wp2_with fail
    clear k6 kf6 k6b
    obtain ⟨W6, hW6⟩ : ∃ W6, w6.setCell ⟨Bo, 0, none⟩ (.slice A6 o2.length c6) = W6 := ⟨_, rfl⟩
    rw [hW6] at S6 ⊢
    clear hW6 K6 hu1
    obtain ⟨o3, ho3⟩ : ∃ o, o2 ++ wire_vb 9 (P.length : Int) = o := ⟨_, rfl⟩
    have HO3 := Lib.hid ho3
    have HL3 := Lib.hid (show o3.length ≤ b_.length + 22 by rw [← ho3, List.length_append]; have := ck_vb_len 9 (P.length : Int); have := HL2.out; omega)
    have HP3 := Lib.hid (show wire_Put.f o2 (P.length : Int) = some o3 by rw [← ho3]; exact ck_put_f o2 P.length (by have := HL2.out; omega) (by omega))
    obtain ⟨o4, ho4⟩ : ∃ o, o3 ++ P = o := ⟨_, rfl⟩
    have HO4 := Lib.hid ho4
    have hmain : o4 = b_ ++ ck_main kind data := by
      rw [← ho4, ← ho3, ← HO2.out, ← HO1.out]
      unfold ck_main ck_how ck_body
      rw [HP.out]
      first
        | rw [if_pos hlt, if_pos hlt]
        | rw [if_neg hlt, if_neg hlt]
      simp only [List.append_assoc]
    have hdrop : o4.drop b_.length = ck_main kind data := by rw [hmain, List.drop_left]
    have hl4 : o4.length ≤ 400000 := by rw [← ho4, List.length_append]; have := HL3.out; omega
    have HN8 := Lib.hid (show o4.length ≤ 1000000 by omega)
    have HL8 := Lib.hid (show b_.length ≤ o4.length by rw [hmain, List.length_append]; omega)
    have HI8 := Lib.hid (show IsB o4 by
      rw [← ho4, ← ho3, ← HO2.out, ← HO1.out]
      exact isB_app (isB_app (isB_app (isB_app HBB.out (fun x hx => by
        rcases List.mem_cons.1 hx with rfl | hx
        · exact hk
        · simp at hx; omega)) (ck_vb_bytes _ _ (by omega))) (ck_vb_bytes _ _ (by omega))) (HP.out ▸ lb_isB HD.out))
    have HF8 := Lib.hid (show wire_PutFixed.f o4 (ck_crc (o4.drop b_.length)) = some R by
      unfold wire_PutFixed.f
      rw [if_pos ⟨(ck_crc_range _).1, (ck_crc_range _).2, by omega⟩, ← HR.out, hdrop]
      unfold ck_put ck_fix
      rw [hmain, List.append_assoc])
    clear ho3 ho4 hmain hdrop hl4
    refine (wire_Put.calls A6 c6 o2 (P.length : Int) o3 W6 (wire_R_C S6.out.out) q6 HP3.out).mono ?_; rintro e w7 ⟨v7, rfl, R7, b7⟩
    obtain ⟨A7, c7, rfl, q7, C7⟩ := wire_form R7
    have R7 := Lib.hid R7
    have b7 := Lib.hid b7
    have HC7 := Lib.hid (Kd.C_below HC1.out (below_then S6.out.hb S6.out.hb.size b7.out))
    clear C7 hu2
    go_wp2_with (first
      | (at_builtin; refine Kd.R_append_row (Value.int .u8) (0 : Int) (w0 := W6) W6.heap.size rfl (.tmp 41) (.tmp 42) 22 5 (.int .u8 0) 1 rfl Tryd.underlying22 info5 rfl (by decide) _ o3 P A1 P.length c1 (fun _ => True) rfl rfl (fun _ _ => trivial) R7.out HC7.out b7.out b7.out.size (by have := HL3.out; omega) ?_; intro v8 w8 R8 b8 _ _; rw [HO4.out] at R8; obtain ⟨A8, c8, rfl, q8, C8⟩ := wire_form R8; have K8 := Lib.hid (KeepBut.of_below b8 W6.heap.size (Value.slice A6 o2.length c6).ownBlock); have k8 := ck_store S6.out K8.out; have kf8 := ck_frozen S6.out K8.out; have S8 := Lib.hid (S6.out.put K8.out (below_then S6.out.hb S6.out.hb.size b8) (wire_R_lower R8 S6.out.hb.size)); clear R8 C8 b8))
    clear k8 kf8 K8 S6 R7 b7 HC7
    obtain ⟨W8, hW8⟩ : ∃ W8, w8.setCell ⟨Bo, 0, none⟩ (.slice A8 o4.length c8) = W8 := ⟨_, rfl⟩
    rw [hW8] at S8 ⊢
    clear hW8
    have HC8 := Lib.hid (wire_R_C S8.out.out)
    have HT8 := Lib.hid (HT.out.keep S8.out.hb)
    refine wp_region_inv (fun a0 w_0 b a' w' => ∃ x44 x45 x46 x47 x6 : Value, a' = (((((a0.put (some 44) x44).put (some 45) x45).put (some 46) x46).put (some 47) x47).put (some 6) x6) ∧ Below W8.heap.size W8 w' ∧ (b 3 = true → ∃ A3 c3, x47 = .slice A3 R.length c3 ∧ R.length ≤ c3 ∧ Kd.R (Kd.int .u8) 5 w' w.heap.size (fun _ => True) (.slice A3 R.length c3) R) ∧ (b 4 = true → b 3 = true ∧ x6 = x47) ∧ (b 0 = true → x44 = .slice A8 o4.length c8) ∧ (b 1 = true → x45 = .func (.func 15) #[] #[.pointer (some ⟨Bo, 0, none⟩), .pointer (some ⟨Bo + 1, 0, none⟩)]) ∧ (b 2 = true → x46 = .int .u32 (ck_crc (o4.drop b_.length)))) (by kernel_rfl) (by kernel_rfl) ?start ⟨?op0, ?op1, ?op2, ?op3, ?op4, trivial⟩ ?done
    case start => exact ⟨_, _, _, _, _, by simp only [Act.put, List.setIfInBounds_toArray, List.set_cons_zero, List.set_cons_succ]; rfl, below_drew1 (Below.refl _ _), fun h => absurd h (by decide), fun h => absurd h (by decide), fun h => absurd h (by decide), fun h => absurd h (by decide), fun h => absurd h (by decide)⟩
    case op0 =>
      rintro bb _ w' ⟨x44, x45, x46, x47, x6, rfl, HB, R1, R2, p44, p45, p46⟩ hb hd K hK
      simp only [Act.put, List.setIfInBounds_toArray, List.set_cons_zero, List.set_cons_succ]
      rw [if_pos (by rfl)]
      have k0 : w'.cell? ⟨Bo, 0, none⟩ = some (.slice A8 o4.length c8) := pw_cell_below HB S8.out.cellO
      go_simp
      exact hK _ _ ⟨.slice A8 o4.length c8, x45, x46, x47, x6, by simp only [Act.put, List.setIfInBounds_toArray, List.set_cons_zero, List.set_cons_succ], HB, fun h => R1 (by simpa [upb] using h), fun h => by obtain ⟨h1, h2⟩ := R2 (by simpa [upb] using h); exact ⟨by simpa [upb] using h1, h2⟩, fun _ => rfl, fun h => p45 (by simpa [upb] using h), fun h => p46 (by simpa [upb] using h)⟩
    case op1 =>
      rintro bb _ w' ⟨x44, x45, x46, x47, x6, rfl, HB, R1, R2, p44, p45, p46⟩ hb hd K hK
      simp only [Act.put, List.setIfInBounds_toArray, List.set_cons_zero, List.set_cons_succ]
      rw [if_pos (by rfl)]
      go_simp
      exact hK _ _ ⟨x44, .func (.func 15) #[] #[.pointer (some ⟨Bo, 0, none⟩), .pointer (some ⟨Bo + 1, 0, none⟩)], x46, x47, x6, by simp only [Act.put, List.setIfInBounds_toArray, List.set_cons_zero, List.set_cons_succ], HB, fun h => R1 (by simpa [upb] using h), fun h => by obtain ⟨h1, h2⟩ := R2 (by simpa [upb] using h); exact ⟨by simpa [upb] using h1, h2⟩, fun h => p44 (by simpa [upb] using h), fun _ => rfl, fun h => p46 (by simpa [upb] using h)⟩
    case op2 =>
      rintro bb _ w' ⟨x44, x45, x46, x47, x6, rfl, HB, R1, R2, p44, p45, p46⟩ hb hd K hK
      simp only [Act.put, List.setIfInBounds_toArray, List.set_cons_zero, List.set_cons_succ]
      obtain rfl := (p45 (hd 1 (by decide))).symm
      rw [if_pos (by rfl)]
      have hc := ck_fn Bo (Bo + 1) b_.length A8 c8 o4 w' (pw_cell_below HB S8.out.cellO) (pw_cell_below HB S8.out.cellN) HL8.out (Kd.C_below HC8.out HB) q8 HI8.out HN8.out (HT8.out.keep HB)
      go_simp
      refine hc.mono ?_; rintro e w3 ⟨rfl, rfl⟩
      try dsimp only
      exact hK _ _ ⟨x44, .func (.func 15) #[] #[.pointer (some ⟨Bo, 0, none⟩), .pointer (some ⟨Bo + 1, 0, none⟩)], .int .u32 (ck_crc (o4.drop b_.length)), x47, x6, by simp only [Act.put, List.setIfInBounds_toArray, List.set_cons_zero, List.set_cons_succ], HB, fun h => R1 (by simpa [upb] using h), fun h => by obtain ⟨h1, h2⟩ := R2 (by simpa [upb] using h); exact ⟨by simpa [upb] using h1, h2⟩, fun h => p44 (by simpa [upb] using h), fun _ => rfl, fun _ => rfl⟩
    case op3 =>
      rintro bb _ w' ⟨x44, x45, x46, x47, x6, rfl, HB, R1, R2, p44, p45, p46⟩ hb hd K hK
      simp only [Act.put, List.setIfInBounds_toArray, List.set_cons_zero, List.set_cons_succ]
      obtain rfl := (p44 (hd 0 (by decide))).symm
      obtain rfl := (p46 (hd 2 (by decide))).symm
      rw [if_pos (by rfl)]
      have hc := wire_PutFixed.calls A8 c8 o4 (ck_crc (o4.drop b_.length)) R w' (Kd.C_below HC8.out HB) q8 HF8.out
      go_simp
      refine hc.mono ?_; rintro e w3 ⟨v3, rfl, R3, b3⟩
      obtain ⟨A3, c3, rfl, q3, C3x⟩ := wire_form R3
      have C3 := wire_R_lower R3 (Nat.le_trans HB1.out.size (Nat.le_trans S8.out.hb.size HB.size))
      have HB2 := below_then HB HB.size b3
      try dsimp only
      exact hK _ _ ⟨.slice A8 o4.length c8, x45, .int .u32 (ck_crc (o4.drop b_.length)), .slice A3 R.length c3, x6, by simp only [Act.put, List.setIfInBounds_toArray, List.set_cons_zero, List.set_cons_succ], HB2, fun _ => ⟨_, _, rfl, q3, C3⟩, fun h => absurd (R2 (by simpa [upb] using h)).1 (by rw [hb]; decide), fun _ => rfl, fun h => p45 (by simpa [upb] using h), fun _ => rfl⟩
    case op4 =>
      rintro bb _ w' ⟨x44, x45, x46, x47, x6, rfl, HB, R1, R2, p44, p45, p46⟩ hb hd K hK
      simp only [Act.put, List.setIfInBounds_toArray, List.set_cons_zero, List.set_cons_succ]
      rw [if_pos (by rfl)]
      obtain ⟨A3, c3, e3, q3, C3⟩ := R1 (hd 3 (by decide))
      subst e3
      go_simp
      exact hK _ _ ⟨x44, x45, x46, .slice A3 R.length c3, .slice A3 R.length c3, by simp only [Act.put, List.setIfInBounds_toArray, List.set_cons_zero, List.set_cons_succ], HB, fun _ => ⟨_, _, rfl, q3, C3⟩, fun _ => ⟨by simpa [upb] using hd 3 (by decide), rfl⟩, fun h => p44 (by simpa [upb] using h), fun h => p45 (by simpa [upb] using h), fun h => p46 (by simpa [upb] using h)⟩
    case done =>
      rintro bb _ w' hb ⟨x44, x45, x46, x47, x6, rfl, HB, R1, R2, p44, p45, p46⟩
      obtain rfl := (p44 (hb 0 (by decide))).symm
      obtain rfl := (p45 (hb 1 (by decide))).symm
      obtain rfl := (p46 (hb 2 (by decide))).symm
      simp only [Act.put, List.setIfInBounds_toArray, List.set_cons_zero, List.set_cons_succ]
      obtain ⟨A3, c3, e3, q3, C3⟩ := R1 (hb 3 (by decide))
      have e4 := (R2 (hb 4 (by decide))).2
      subst e4 e3
      clear hb p44 p45 p46
      clear R1 R2
      go_wp2_with fail
      go_ret
      exact ⟨A3, c3, rfl, q3, C3, below_then HB1.out HB1.out.size (below_then S8.out.hb S8.out.hb.size HB)⟩
  · skip
    have hlt' : ¬ (P.length : Int) < data.length := by omega
    go_enter Tryd.func7, Tryd.ntmps7
    go_wp2_with fail
    refine (lz_Pack.calls A2 c2 data P w HR2.out hc2 HPF.out).mono ?_; rintro e w1 ⟨v1, rfl, R1, b1⟩
    obtain ⟨A1, c1, rfl, q1, C1⟩ := wire_form R1
    have HB1 := Lib.hid b1
    have HR0 := Lib.hid (Kd.C_below HR0.out b1)
    have HT := Lib.hid (HT.out.keep b1)
    have HC1 := Lib.hid (Kd.C_below HR2.out b1)
    clear R1 b1 C1
    go_wp2_with fail
    refine (wire_clone A0 c0 b_ w1 HR0.out hc0 (by omega)).mono ?_; rintro e w2 ⟨v2, rfl, R2, b2⟩
    obtain ⟨A2', c2', rfl, q2, C2⟩ := wire_form R2
    have HS := Lib.hid (ck_box (.slice A2' b_.length c2') b_ b_.length b2 R2)
    obtain ⟨Bo, hBo⟩ : ∃ Bo, w2.heap.size = Bo := ⟨_, rfl⟩
    obtain ⟨W3, hW3⟩ : ∃ W3, (w2.alloc (.cells #[.slice A2' b_.length c2'] 22)).alloc (.cells #[.int .i64 (b_.length : Int)] 3) = W3 := ⟨_, rfl⟩
    have hsz : W3.heap.size = w2.heap.size + 1 + 1 := by rw [← hW3]; simp
    rw [hW3] at HS
    rw [hBo] at HS hsz
    obtain ⟨W4, hW4⟩ : ∃ W4, W3.alloc (.cells #[.int .u8 kind, .int .u8 0] 5) = W4 := ⟨_, rfl⟩
    have hb4 : Below W3.heap.size W3 W4 := by rw [← hW4]; exact below_alloc (Below.refl _ _) _
    have hB4 := Lib.hid (below_then HS.out.hb HS.out.hb.size hb4)
    have HK4 := Lib.hid hb4
    have R4 := Lib.hid (Kd.R_below HS.out.out hb4)
    have lit := wire_lit (l := [kind, 0]) (e := 5) (fr := (0, 0)) (W := W4) (g := Bo + 1 + 1) (by rw [← hW4, ← hsz]; exact blk_new W3 _) (by simp)
    have LIT := Lib.hid lit
    have HW := Lib.hid (show ((w2.alloc (.cells #[.slice A2' b_.length c2'] 22)).alloc (.cells #[.int .i64 (b_.length : Int)] 3)).alloc (.cells #[.int .u8 kind, .int .u8 0] 5) = W4 by rw [hW3, hW4])
    obtain ⟨o1, ho1⟩ : ∃ o, b_ ++ [kind, 0] = o := ⟨_, rfl⟩
    have HO1 := Lib.hid ho1
    have HL1 := Lib.hid (show o1.length = b_.length + 2 by rw [← ho1]; simp)
    have hu1 : IntKind.u64.wrap (data.length : Int) = data.length := by rw [IntKind.wrap_u64]; omega
    have hu2 : IntKind.u64.wrap (data.length : Int) = data.length := by rw [IntKind.wrap_u64]; omega
    clear R2 C2 b2 hW3 hW4 hb4 lit hsz ho1
    go_wp2_with (first
      | (at_builtin; rw [HW.out]; refine Kd.R_append_row (Value.int .u8) (0 : Int) (w0 := w1) w1.heap.size rfl (.tmp 27) (.tmp 30) 22 5 (.int .u8 0) 1 rfl Tryd.underlying22 info5 rfl (by decide) _ b_ [kind, 0] (some ⟨Bo + 1 + 1, 0, none⟩) 2 2 (fun _ => True) rfl rfl (fun _ _ => trivial) R4.out LIT.out hB4.out hB4.out.size (by simp; omega) ?_; intro v5 w5 R5 b5 g5 _; rw [HO1.out] at R5; obtain ⟨A5, c5, rfl, q5, C5⟩ := wire_form R5; have K5 := Lib.hid (ck_keep HK4.out (show W4.grownBy w5 (Value.slice A2' b_.length c2').ownBlock from g5)); have BB5 := Lib.hid b5; clear g5 b5; have k5 := ck_store HS.out K5.out; have kf5 := ck_frozen HS.out K5.out; have S5 := Lib.hid (HS.out.put K5.out BB5.out R5); have k5b := S5.out.cellO; clear R5 C5))
    clear k5 kf5 k5b
    obtain ⟨W5, hW5⟩ : ∃ W5, w5.setCell ⟨Bo, 0, none⟩ (.slice A5 o1.length c5) = W5 := ⟨_, rfl⟩
    rw [hW5] at S5 ⊢
    clear hW5 hBo HS HK4 R4 LIT HW hB4 K5 BB5
    obtain ⟨o2, ho2⟩ : ∃ o, o1 ++ wire_vb 9 (data.length : Int) = o := ⟨_, rfl⟩
    have HO2 := Lib.hid ho2
    have HL2 := Lib.hid (show o2.length ≤ b_.length + 12 by rw [← ho2, List.length_append]; have := ck_vb_len 9 (data.length : Int); have := HL1.out; omega)
    have HP2 := Lib.hid (show wire_Put.f o1 (data.length : Int) = some o2 by rw [← ho2]; exact ck_put_f o1 data.length (by have := HL1.out; omega) (by omega))
    clear ho2
    refine (wire_Put.calls A5 c5 o1 (data.length : Int) o2 W5 (wire_R_C S5.out.out) q5 HP2.out).mono ?_; rintro e w6 ⟨v6, rfl, R6, b6⟩
    obtain ⟨A6, c6, rfl, q6, C6⟩ := wire_form R6
    have K6 := Lib.hid (KeepBut.of_below b6 W5.heap.size (Value.slice A5 o1.length c5).ownBlock)
    have k6 := ck_store S5.out K6.out
    have kf6 := ck_frozen S5.out K6.out
    have S6 := Lib.hid (S5.out.put K6.out (below_then S5.out.hb S5.out.hb.size b6) (wire_R_lower R6 S5.out.hb.size))
    have k6b := S6.out.cellO
    clear R6 C6 b6 S5
    go_wp2_with fail
    clear k6 kf6 k6b
    obtain ⟨W6, hW6⟩ : ∃ W6, w6.setCell ⟨Bo, 0, none⟩ (.slice A6 o2.length c6) = W6 := ⟨_, rfl⟩
    rw [hW6] at S6 ⊢
    clear hW6 K6 hu1
    obtain ⟨o3, ho3⟩ : ∃ o, o2 ++ wire_vb 9 (data.length : Int) = o := ⟨_, rfl⟩
    have HO3 := Lib.hid ho3
    have HL3 := Lib.hid (show o3.length ≤ b_.length + 22 by rw [← ho3, List.length_append]; have := ck_vb_len 9 (data.length : Int); have := HL2.out; omega)
    have HP3 := Lib.hid (show wire_Put.f o2 (data.length : Int) = some o3 by rw [← ho3]; exact ck_put_f o2 data.length (by have := HL2.out; omega) (by omega))
    obtain ⟨o4, ho4⟩ : ∃ o, o3 ++ data = o := ⟨_, rfl⟩
    have HO4 := Lib.hid ho4
    have hmain : o4 = b_ ++ ck_main kind data := by
      rw [← ho4, ← ho3, ← HO2.out, ← HO1.out]
      unfold ck_main ck_how ck_body
      rw [HP.out]
      first
        | rw [if_pos hlt, if_pos hlt]
        | rw [if_neg hlt, if_neg hlt]
      simp only [List.append_assoc]
    have hdrop : o4.drop b_.length = ck_main kind data := by rw [hmain, List.drop_left]
    have hl4 : o4.length ≤ 400000 := by rw [← ho4, List.length_append]; have := HL3.out; omega
    have HN8 := Lib.hid (show o4.length ≤ 1000000 by omega)
    have HL8 := Lib.hid (show b_.length ≤ o4.length by rw [hmain, List.length_append]; omega)
    have HI8 := Lib.hid (show IsB o4 by
      rw [← ho4, ← ho3, ← HO2.out, ← HO1.out]
      exact isB_app (isB_app (isB_app (isB_app HBB.out (fun x hx => by
        rcases List.mem_cons.1 hx with rfl | hx
        · exact hk
        · simp at hx; omega)) (ck_vb_bytes _ _ (by omega))) (ck_vb_bytes _ _ (by omega))) HD.out)
    have HF8 := Lib.hid (show wire_PutFixed.f o4 (ck_crc (o4.drop b_.length)) = some R by
      unfold wire_PutFixed.f
      rw [if_pos ⟨(ck_crc_range _).1, (ck_crc_range _).2, by omega⟩, ← HR.out, hdrop]
      unfold ck_put ck_fix
      rw [hmain, List.append_assoc])
    clear ho3 ho4 hmain hdrop hl4
    refine (wire_Put.calls A6 c6 o2 (data.length : Int) o3 W6 (wire_R_C S6.out.out) q6 HP3.out).mono ?_; rintro e w7 ⟨v7, rfl, R7, b7⟩
    obtain ⟨A7, c7, rfl, q7, C7⟩ := wire_form R7
    have R7 := Lib.hid R7
    have b7 := Lib.hid b7
    have HC7 := Lib.hid (Kd.C_below HC1.out (below_then S6.out.hb S6.out.hb.size b7.out))
    clear C7 hu2
    go_wp2_with (first
      | (at_builtin; refine Kd.R_append_row (Value.int .u8) (0 : Int) (w0 := W6) W6.heap.size rfl (.tmp 41) (.tmp 42) 22 5 (.int .u8 0) 1 rfl Tryd.underlying22 info5 rfl (by decide) _ o3 data A2 data.length c2 (fun _ => True) rfl rfl (fun _ _ => trivial) R7.out HC7.out b7.out b7.out.size (by have := HL3.out; omega) ?_; intro v8 w8 R8 b8 _ _; rw [HO4.out] at R8; obtain ⟨A8, c8, rfl, q8, C8⟩ := wire_form R8; have K8 := Lib.hid (KeepBut.of_below b8 W6.heap.size (Value.slice A6 o2.length c6).ownBlock); have k8 := ck_store S6.out K8.out; have kf8 := ck_frozen S6.out K8.out; have S8 := Lib.hid (S6.out.put K8.out (below_then S6.out.hb S6.out.hb.size b8) (wire_R_lower R8 S6.out.hb.size)); clear R8 C8 b8))
    clear k8 kf8 K8 S6 R7 b7 HC7
    obtain ⟨W8, hW8⟩ : ∃ W8, w8.setCell ⟨Bo, 0, none⟩ (.slice A8 o4.length c8) = W8 := ⟨_, rfl⟩
    rw [hW8] at S8 ⊢
    clear hW8
    have HC8 := Lib.hid (wire_R_C S8.out.out)
    have HT8 := Lib.hid (HT.out.keep S8.out.hb)
    refine wp_region_inv (fun a0 w_0 b a' w' => ∃ x44 x45 x46 x47 x6 : Value, a' = (((((a0.put (some 44) x44).put (some 45) x45).put (some 46) x46).put (some 47) x47).put (some 6) x6) ∧ Below W8.heap.size W8 w' ∧ (b 3 = true → ∃ A3 c3, x47 = .slice A3 R.length c3 ∧ R.length ≤ c3 ∧ Kd.R (Kd.int .u8) 5 w' w.heap.size (fun _ => True) (.slice A3 R.length c3) R) ∧ (b 4 = true → b 3 = true ∧ x6 = x47) ∧ (b 0 = true → x44 = .slice A8 o4.length c8) ∧ (b 1 = true → x45 = .func (.func 15) #[] #[.pointer (some ⟨Bo, 0, none⟩), .pointer (some ⟨Bo + 1, 0, none⟩)]) ∧ (b 2 = true → x46 = .int .u32 (ck_crc (o4.drop b_.length)))) (by kernel_rfl) (by kernel_rfl) ?start ⟨?op0, ?op1, ?op2, ?op3, ?op4, trivial⟩ ?done
    case start => exact ⟨_, _, _, _, _, by simp only [Act.put, List.setIfInBounds_toArray, List.set_cons_zero, List.set_cons_succ]; rfl, below_drew1 (Below.refl _ _), fun h => absurd h (by decide), fun h => absurd h (by decide), fun h => absurd h (by decide), fun h => absurd h (by decide), fun h => absurd h (by decide)⟩
    case op0 =>
      rintro bb _ w' ⟨x44, x45, x46, x47, x6, rfl, HB, R1, R2, p44, p45, p46⟩ hb hd K hK
      simp only [Act.put, List.setIfInBounds_toArray, List.set_cons_zero, List.set_cons_succ]
      rw [if_pos (by rfl)]
      have k0 : w'.cell? ⟨Bo, 0, none⟩ = some (.slice A8 o4.length c8) := pw_cell_below HB S8.out.cellO
      go_simp
      exact hK _ _ ⟨.slice A8 o4.length c8, x45, x46, x47, x6, by simp only [Act.put, List.setIfInBounds_toArray, List.set_cons_zero, List.set_cons_succ], HB, fun h => R1 (by simpa [upb] using h), fun h => by obtain ⟨h1, h2⟩ := R2 (by simpa [upb] using h); exact ⟨by simpa [upb] using h1, h2⟩, fun _ => rfl, fun h => p45 (by simpa [upb] using h), fun h => p46 (by simpa [upb] using h)⟩
    case op1 =>
      rintro bb _ w' ⟨x44, x45, x46, x47, x6, rfl, HB, R1, R2, p44, p45, p46⟩ hb hd K hK
      simp only [Act.put, List.setIfInBounds_toArray, List.set_cons_zero, List.set_cons_succ]
      rw [if_pos (by rfl)]
      go_simp
      exact hK _ _ ⟨x44, .func (.func 15) #[] #[.pointer (some ⟨Bo, 0, none⟩), .pointer (some ⟨Bo + 1, 0, none⟩)], x46, x47, x6, by simp only [Act.put, List.setIfInBounds_toArray, List.set_cons_zero, List.set_cons_succ], HB, fun h => R1 (by simpa [upb] using h), fun h => by obtain ⟨h1, h2⟩ := R2 (by simpa [upb] using h); exact ⟨by simpa [upb] using h1, h2⟩, fun h => p44 (by simpa [upb] using h), fun _ => rfl, fun h => p46 (by simpa [upb] using h)⟩
    case op2 =>
      rintro bb _ w' ⟨x44, x45, x46, x47, x6, rfl, HB, R1, R2, p44, p45, p46⟩ hb hd K hK
      simp only [Act.put, List.setIfInBounds_toArray, List.set_cons_zero, List.set_cons_succ]
      obtain rfl := (p45 (hd 1 (by decide))).symm
      rw [if_pos (by rfl)]
      have hc := ck_fn Bo (Bo + 1) b_.length A8 c8 o4 w' (pw_cell_below HB S8.out.cellO) (pw_cell_below HB S8.out.cellN) HL8.out (Kd.C_below HC8.out HB) q8 HI8.out HN8.out (HT8.out.keep HB)
      go_simp
      refine hc.mono ?_; rintro e w3 ⟨rfl, rfl⟩
      try dsimp only
      exact hK _ _ ⟨x44, .func (.func 15) #[] #[.pointer (some ⟨Bo, 0, none⟩), .pointer (some ⟨Bo + 1, 0, none⟩)], .int .u32 (ck_crc (o4.drop b_.length)), x47, x6, by simp only [Act.put, List.setIfInBounds_toArray, List.set_cons_zero, List.set_cons_succ], HB, fun h => R1 (by simpa [upb] using h), fun h => by obtain ⟨h1, h2⟩ := R2 (by simpa [upb] using h); exact ⟨by simpa [upb] using h1, h2⟩, fun h => p44 (by simpa [upb] using h), fun _ => rfl, fun _ => rfl⟩
    case op3 =>
      rintro bb _ w' ⟨x44, x45, x46, x47, x6, rfl, HB, R1, R2, p44, p45, p46⟩ hb hd K hK
      simp only [Act.put, List.setIfInBounds_toArray, List.set_cons_zero, List.set_cons_succ]
      obtain rfl := (p44 (hd 0 (by decide))).symm
      obtain rfl := (p46 (hd 2 (by decide))).symm
      rw [if_pos (by rfl)]
      have hc := wire_PutFixed.calls A8 c8 o4 (ck_crc (o4.drop b_.length)) R w' (Kd.C_below HC8.out HB) q8 HF8.out
      go_simp
      refine hc.mono ?_; rintro e w3 ⟨v3, rfl, R3, b3⟩
      obtain ⟨A3, c3, rfl, q3, C3x⟩ := wire_form R3
      have C3 := wire_R_lower R3 (Nat.le_trans HB1.out.size (Nat.le_trans S8.out.hb.size HB.size))
      have HB2 := below_then HB HB.size b3
      try dsimp only
      exact hK _ _ ⟨.slice A8 o4.length c8, x45, .int .u32 (ck_crc (o4.drop b_.length)), .slice A3 R.length c3, x6, by simp only [Act.put, List.setIfInBounds_toArray, List.set_cons_zero, List.set_cons_succ], HB2, fun _ => ⟨_, _, rfl, q3, C3⟩, fun h => absurd (R2 (by simpa [upb] using h)).1 (by rw [hb]; decide), fun _ => rfl, fun h => p45 (by simpa [upb] using h), fun _ => rfl⟩
    case op4 =>
      rintro bb _ w' ⟨x44, x45, x46, x47, x6, rfl, HB, R1, R2, p44, p45, p46⟩ hb hd K hK
      simp only [Act.put, List.setIfInBounds_toArray, List.set_cons_zero, List.set_cons_succ]
      rw [if_pos (by rfl)]
      obtain ⟨A3, c3, e3, q3, C3⟩ := R1 (hd 3 (by decide))
      subst e3
      go_simp
      exact hK _ _ ⟨x44, x45, x46, .slice A3 R.length c3, .slice A3 R.length c3, by simp only [Act.put, List.setIfInBounds_toArray, List.set_cons_zero, List.set_cons_succ], HB, fun _ => ⟨_, _, rfl, q3, C3⟩, fun _ => ⟨by simpa [upb] using hd 3 (by decide), rfl⟩, fun h => p44 (by simpa [upb] using h), fun h => p45 (by simpa [upb] using h), fun h => p46 (by simpa [upb] using h)⟩
    case done =>
      rintro bb _ w' hb ⟨x44, x45, x46, x47, x6, rfl, HB, R1, R2, p44, p45, p46⟩
      obtain rfl := (p44 (hb 0 (by decide))).symm
      obtain rfl := (p45 (hb 1 (by decide))).symm
      obtain rfl := (p46 (hb 2 (by decide))).symm
      simp only [Act.put, List.setIfInBounds_toArray, List.set_cons_zero, List.set_cons_succ]
      obtain ⟨A3, c3, e3, q3, C3⟩ := R1 (hb 3 (by decide))
      have e4 := (R2 (hb 4 (by decide))).2
      subst e4 e3
      clear hb p44 p45 p46
      clear R1 R2
      go_wp2_with fail
      go_ret
      exact ⟨A3, c3, rfl, q3, C3, below_then HB1.out HB1.out.size (below_then S8.out.hb S8.out.hb.size HB)⟩
end Go.Proofs.YtigcgdhihaibbaaDoor.PLz
