/- Chunk: the document's Put: its walk. No condition of its own. -/
import Derived.Test.YtigcgdhihaibbaaDoorPRef
import Derived.Test.YtigcgdhihaibbaaDoorK2
namespace Go.Proofs.YtigcgdhihaibbaaDoor.PLz
open Go.Proofs.YtigcgdhihaibbaaDoor.PRef
open Go.RowKit Go.Proofs.YtigcgdhihaibbaaDoorW.PrintWords Go.Proofs.YtigcgdhihaibbaaDoorW.PrintLast Go.Proofs.YtigcgdhihaibbaaDoorW.PrintMore
attribute [local go_sem] max2_int min2_int max_two min_two max_three min_three max_four min_four   -- for this text's walks alone
set_option linter.unusedVariables false
set_option linter.unusedSimpArgs false
set_option maxHeartbeats 4000000
set_option maxRecDepth 20000

theorem bytes_str {l : List Int} (h : IsB l) : bytesOf (strOfNums l) = l := by
  unfold bytesOf strOfNums
  simp only [List.map_map]
  conv => rhs; rw [← List.map_id l]
  refine List.map_congr_left fun x hx => ?_
  have := h x hx
  simp only [Function.comp, UInt8.toNat_ofNat', id]
  omega
theorem ck_conv_rd (W : World) (M : List Int) (h : IsB M) (hl : M.length ≤ 1000000) : Rd (Lib.bytesWorld W 5 (strOfNums M)) (some ⟨W.heap.size, 0, none⟩) (strOfNums M).size M := by
  have hs := str_size M
  obtain ⟨h1, h2, h3⟩ := bytes_reads W 5 (strOfNums M) (by omega)
  rw [bytes_str h] at h1 h3
  refine ⟨h1, h2, fun x hx => by have := h x hx; omega, fun hn => ?_⟩
  obtain ⟨b, e, hc⟩ := h3 hn
  injection e with e
  subst e
  refine ⟨_, _, rfl, fun j hj => ?_⟩
  have := hc j hj
  rwa [Addr.add_lit] at this
theorem ck_str_bytes {kind how : Int} : ∀ W : World, ∀ g, W.heap[g]? = some (.cells #[.int .u8 kind, .int .u8 how] 5 (0, 0)) → Kd.C (Kd.int .u8) W (some ⟨g, 0, none⟩) 2 [kind, how] := fun W g h => wire_lit (l := [kind, how]) h (by simp)
set_option maxHeartbeats 60000000 in
theorem ck_refPut_calls (k kv : Nat) (kind : Int) (data : List Int) (w : World) (hB : IsB data) (hk : 0 ≤ kind ∧ kind < 256) (hl : data.length ≤ 2000) (hMB : IsB (ck_main kind data))
    (hpk : rematchref04_Pack.f k (strOfNums data) = some (strOfNums (lz_pack data))) (hv : ∀ n : Nat, n ≤ 10000 → rematchref01_Varint.f kv (n : Int) = some (strOfNums (wire_vb 9 (n : Int))))
    (hfx : rematchref01_Fixed.f (ck_crc (ck_main kind data)) = some (strOfNums (ck_fix (ck_crc (ck_main kind data))))) :
    Calls Tryd.prog 8 #[.int .u8 kind, .string (strOfNums data)] w fun e w' => e = .returned (.string (strOfNums (ck_put kind data))) ∧ Below w.heap.size w w' := by
  obtain ⟨P, hP⟩ : ∃ P, lz_pack data = P := ⟨_, rfl⟩
  obtain ⟨M, hM⟩ : ∃ M, ck_main kind data = M := ⟨_, rfl⟩
  have hput : ck_put kind data = M ++ ck_fix (ck_crc M) := by unfold ck_put; rw [hM]
  rw [hM] at hMB hfx
  rw [hP] at hpk
  rw [hput, str_app]
  obtain ⟨s, hs⟩ : ∃ s, s = strOfNums data := ⟨_, rfl⟩
  obtain ⟨sP, hsP⟩ : ∃ s, s = strOfNums P := ⟨_, rfl⟩
  obtain ⟨sf, hsf⟩ : ∃ s, s = strOfNums (ck_fix (ck_crc M)) := ⟨_, rfl⟩
  rw [← hs, ← hsP] at hpk
  rw [← hsf] at hfx
  rw [← hs, ← hsf]
  have hz1 : s.size = data.length := by rw [hs, str_size]
  have hz2 : sP.size = P.length := by rw [hsP, str_size]
  have hu1 : IntKind.u64.wrap (s.size : Int) = s.size := by rw [IntKind.wrap_u64]; omega
  have HV1 := Lib.hid (show rematchref01_Varint.f kv (s.size : Int) = some (strOfNums (wire_vb 9 (data.length : Int))) by rw [hz1]; exact hv _ (by omega))
  obtain ⟨sv, hsv⟩ : ∃ s, s = strOfNums (wire_vb 9 (data.length : Int)) := ⟨_, rfl⟩
  rw [← hsv] at HV1
  have HPK := Lib.hid (fun W => rematchref04_Pack.calls k s sP W hpk)
  have HMB := Lib.hid hMB
  have HF := Lib.hid hfx
  have hml : M.length ≤ 1000000 := by
    rw [← hM]
    unfold ck_main
    simp only [List.length_append, List.length_cons, List.length_nil]
    have := ck_vb_len 9 (data.length : Int)
    have := ck_vb_len 9 ((ck_body data).length : Int)
    have : (ck_body data).length ≤ data.length := by unfold ck_body; split <;> omega
    omega
  have HML := Lib.hid hml
  have HMD := Lib.hid hM
  have Hs := Lib.hid hs
  have HsP := Lib.hid hsP
  have Hsf := Lib.hid hsf
  have Hsv := Lib.hid hsv
  have HP := Lib.hid hP
  have HZ := Lib.hid (And.intro hz1 hz2)
  have HVV := Lib.hid hv
  clear hMB hfx hpk hput hml hM hs hsP hsf hsv hP hz1 hz2 hv hB
  by_cases hlt : P.length < data.length
  · have hlt' : (sP.size : Int) < s.size := by have := HZ.out; omega
    have hu2 : IntKind.u64.wrap (sP.size : Int) = sP.size := by rw [IntKind.wrap_u64]; have := HZ.out; omega
    obtain ⟨kh, hkh⟩ : ∃ s, s = strOfNums [kind, 1] := ⟨_, rfl⟩
    obtain ⟨su, hsu⟩ : ∃ s, s = strOfNums (wire_vb 9 (P.length : Int)) := ⟨_, rfl⟩
    have HV2 := Lib.hid (show rematchref01_Varint.f kv (sP.size : Int) = some su by rw [hsu, show sP.size = P.length by have := HZ.out; omega]; exact HVV.out _ (by have := HZ.out; omega))
    have hcat : kh ++ sv ++ su ++ sP = strOfNums M := by
      rw [hkh, Hsv.out, hsu, HsP.out, ← str_app, ← str_app, ← str_app, ← HMD.out]
      unfold ck_main ck_how ck_body
      rw [HP.out]
      first
        | rw [if_pos hlt, if_pos hlt]
        | rw [if_neg hlt, if_neg hlt]
    have hn1 : kh.size = 2 := by rw [hkh, str_size]; rfl
    have hn2 : sv.size ≤ 10 := by rw [Hsv.out, str_size]; exact ck_vb_len 9 _
    have hn3 : su.size ≤ 10 := by rw [hsu, str_size]; exact ck_vb_len 9 _
    have hn4 : sP.size ≤ 2000 := by have := HZ.out; omega
    have hn5 : sf.size = 4 := by rw [Hsf.out, str_size]; rfl
    have Z1 := Lib.hid (show ¬ 9223372036854775807 < kh.size + sv.size by omega)
    have Z2 := Lib.hid (show ¬ 9223372036854775807 < kh.size + sv.size + su.size by omega)
    have Z3 := Lib.hid (show ¬ 9223372036854775807 < kh.size + sv.size + su.size + sP.size by omega)
    have Z4 := Lib.hid (show ¬ 9223372036854775807 < kh.size + sv.size + su.size + sP.size + sf.size by omega)
    clear hn1 hn2 hn3 hn4 hn5
    have HM := Lib.hid hcat
    have HE := Lib.hid (show kh ++ sv ++ su ++ sP ++ sf = strOfNums M ++ sf by rw [hcat])
    have Hkh := Lib.hid hkh
    clear hkh hsu hcat
    go_enter Tryd.func8, Tryd.ntmps8
    go_wp2_with fail
    refine (HPK.out _).mono ?_; rintro e w1 ⟨rfl, b1⟩
    have HB1 := Lib.hid b1
    clear b1
    go_wp2_with fail
    refine wp_region_inv (fun a0 w_0 b a' w' => ∃ x18 x19 x20 x21 x22 x23 x24 x25 x26 x27 x28 x29 x30 x31 x32 x33 x8 : Value, a' = (((((((((((((((((a0.put (some 18) x18).put (some 19) x19).put (some 20) x20).put (some 21) x21).put (some 22) x22).put (some 23) x23).put (some 24) x24).put (some 25) x25).put (some 26) x26).put (some 27) x27).put (some 28) x28).put (some 29) x29).put (some 30) x30).put (some 31) x31).put (some 32) x32).put (some 33) x33).put (some 8) x8) ∧ Below w1.heap.size w1 w' ∧ (b 2 = true → ∃ gq, x20 = .slice (some ⟨gq, 0, none⟩) 2 2 ∧ Kd.C (Kd.int .u8) w' (some ⟨gq, 0, none⟩) 2 [kind, 1]) ∧ (b 0 = true → x18 = .int .u8 kind) ∧ (b 1 = true → x19 = .int .u8 1) ∧ (b 3 = true → x21 = .string kh) ∧ (b 4 = true → x22 = .string s) ∧ (b 5 = true → x23 = .int .i64 (s.size : Int)) ∧ (b 6 = true → x24 = .int .u64 (s.size : Int)) ∧ (b 7 = true → x25 = .string sv) ∧ (b 8 = true → x26 = .string (kh ++ sv)) ∧ (b 9 = true → x27 = .string sP) ∧ (b 10 = true → x28 = .int .i64 (sP.size : Int)) ∧ (b 11 = true → x29 = .int .u64 (sP.size : Int)) ∧ (b 12 = true → x30 = .string su) ∧ (b 13 = true → x31 = .string (kh ++ sv ++ su)) ∧ (b 14 = true → x32 = .string sP) ∧ (b 15 = true → x33 = .string (kh ++ sv ++ su ++ sP)) ∧ (b 16 = true → x8 = .string (kh ++ sv ++ su ++ sP))) (by kernel_rfl) (by kernel_rfl) ?start ⟨?op0, ?op1, ?op2, ?op3, ?op4, ?op5, ?op6, ?op7, ?op8, ?op9, ?op10, ?op11, ?op12, ?op13, ?op14, ?op15, ?op16, trivial⟩ ?done
    case start => exact ⟨_, _, _, _, _, _, _, _, _, _, _, _, _, _, _, _, _, by simp only [Act.put, List.setIfInBounds_toArray, List.set_cons_zero, List.set_cons_succ]; rfl, below_drew1 (Below.refl _ _), fun h => absurd h (by decide), fun h => absurd h (by decide), fun h => absurd h (by decide), fun h => absurd h (by decide), fun h => absurd h (by decide), fun h => absurd h (by decide), fun h => absurd h (by decide), fun h => absurd h (by decide), fun h => absurd h (by decide), fun h => absurd h (by decide), fun h => absurd h (by decide), fun h => absurd h (by decide), fun h => absurd h (by decide), fun h => absurd h (by decide), fun h => absurd h (by decide), fun h => absurd h (by decide), fun h => absurd h (by decide)⟩
    case op0 =>
      rintro bb _ w' ⟨x18, x19, x20, x21, x22, x23, x24, x25, x26, x27, x28, x29, x30, x31, x32, x33, x8, rfl, HB, R1, p18, p19, p21, p22, p23, p24, p25, p26, p27, p28, p29, p30, p31, p32, p33, p8⟩ hb hd K hK
      simp only [Act.put, List.setIfInBounds_toArray, List.set_cons_zero, List.set_cons_succ]
      rw [if_pos (by rfl)]
      go_simp
      exact hK _ _ ⟨.int .u8 kind, x19, x20, x21, x22, x23, x24, x25, x26, x27, x28, x29, x30, x31, x32, x33, x8, by simp only [Act.put, List.setIfInBounds_toArray, List.set_cons_zero, List.set_cons_succ], HB, fun h => R1 (by simpa [upb] using h), fun _ => rfl, fun h => p19 (by simpa [upb] using h), fun h => p21 (by simpa [upb] using h), fun h => p22 (by simpa [upb] using h), fun h => p23 (by simpa [upb] using h), fun h => p24 (by simpa [upb] using h), fun h => p25 (by simpa [upb] using h), fun h => p26 (by simpa [upb] using h), fun h => p27 (by simpa [upb] using h), fun h => p28 (by simpa [upb] using h), fun h => p29 (by simpa [upb] using h), fun h => p30 (by simpa [upb] using h), fun h => p31 (by simpa [upb] using h), fun h => p32 (by simpa [upb] using h), fun h => p33 (by simpa [upb] using h), fun h => p8 (by simpa [upb] using h)⟩
    case op1 =>
      rintro bb _ w' ⟨x18, x19, x20, x21, x22, x23, x24, x25, x26, x27, x28, x29, x30, x31, x32, x33, x8, rfl, HB, R1, p18, p19, p21, p22, p23, p24, p25, p26, p27, p28, p29, p30, p31, p32, p33, p8⟩ hb hd K hK
      simp only [Act.put, List.setIfInBounds_toArray, List.set_cons_zero, List.set_cons_succ]
      rw [if_pos (by rfl)]
      go_simp
      exact hK _ _ ⟨x18, .int .u8 1, x20, x21, x22, x23, x24, x25, x26, x27, x28, x29, x30, x31, x32, x33, x8, by simp only [Act.put, List.setIfInBounds_toArray, List.set_cons_zero, List.set_cons_succ], HB, fun h => R1 (by simpa [upb] using h), fun h => p18 (by simpa [upb] using h), fun _ => rfl, fun h => p21 (by simpa [upb] using h), fun h => p22 (by simpa [upb] using h), fun h => p23 (by simpa [upb] using h), fun h => p24 (by simpa [upb] using h), fun h => p25 (by simpa [upb] using h), fun h => p26 (by simpa [upb] using h), fun h => p27 (by simpa [upb] using h), fun h => p28 (by simpa [upb] using h), fun h => p29 (by simpa [upb] using h), fun h => p30 (by simpa [upb] using h), fun h => p31 (by simpa [upb] using h), fun h => p32 (by simpa [upb] using h), fun h => p33 (by simpa [upb] using h), fun h => p8 (by simpa [upb] using h)⟩
    case op2 =>
      rintro bb _ w' ⟨x18, x19, x20, x21, x22, x23, x24, x25, x26, x27, x28, x29, x30, x31, x32, x33, x8, rfl, HB, R1, p18, p19, p21, p22, p23, p24, p25, p26, p27, p28, p29, p30, p31, p32, p33, p8⟩ hb hd K hK
      simp only [Act.put, List.setIfInBounds_toArray, List.set_cons_zero, List.set_cons_succ]
      obtain rfl := (p18 (hd 0 (by decide))).symm
      obtain rfl := (p19 (hd 1 (by decide))).symm
      rw [if_pos (by rfl)]
      go_simp
      exact hK _ _ ⟨.int .u8 kind, .int .u8 1, .slice (some ⟨w'.heap.size, 0, none⟩) 2 2, x21, x22, x23, x24, x25, x26, x27, x28, x29, x30, x31, x32, x33, x8, by simp only [Act.put, List.setIfInBounds_toArray, List.set_cons_zero, List.set_cons_succ], below_alloc HB _, fun _ => ⟨_, rfl, ck_str_bytes _ _ (blk_new _ _)⟩, fun _ => rfl, fun _ => rfl, fun h => p21 (by simpa [upb] using h), fun h => p22 (by simpa [upb] using h), fun h => p23 (by simpa [upb] using h), fun h => p24 (by simpa [upb] using h), fun h => p25 (by simpa [upb] using h), fun h => p26 (by simpa [upb] using h), fun h => p27 (by simpa [upb] using h), fun h => p28 (by simpa [upb] using h), fun h => p29 (by simpa [upb] using h), fun h => p30 (by simpa [upb] using h), fun h => p31 (by simpa [upb] using h), fun h => p32 (by simpa [upb] using h), fun h => p33 (by simpa [upb] using h), fun h => p8 (by simpa [upb] using h)⟩
    case op3 =>
      rintro bb _ w' ⟨x18, x19, x20, x21, x22, x23, x24, x25, x26, x27, x28, x29, x30, x31, x32, x33, x8, rfl, HB, R1, p18, p19, p21, p22, p23, p24, p25, p26, p27, p28, p29, p30, p31, p32, p33, p8⟩ hb hd K hK
      simp only [Act.put, List.setIfInBounds_toArray, List.set_cons_zero, List.set_cons_succ]
      rw [if_pos (by rfl)]
      obtain ⟨gq, e3, C3⟩ := R1 (hd 2 (by decide))
      subst e3
      have k3 := Kd.C_string (P := Tryd.prog) (src := 22) (dst := 9) (n := 2) (c := 2) Tryd.underlying22 (by kernel_rfl) Tryd.underlying9 C3
      rw [← Hkh.out] at k3
      go_simp
      exact hK _ _ ⟨x18, x19, .slice (some ⟨gq, 0, none⟩) 2 2, .string kh, x22, x23, x24, x25, x26, x27, x28, x29, x30, x31, x32, x33, x8, by simp only [Act.put, List.setIfInBounds_toArray, List.set_cons_zero, List.set_cons_succ], HB, fun h => ⟨gq, rfl, C3⟩, fun h => p18 (by simpa [upb] using h), fun h => p19 (by simpa [upb] using h), fun _ => rfl, fun h => p22 (by simpa [upb] using h), fun h => p23 (by simpa [upb] using h), fun h => p24 (by simpa [upb] using h), fun h => p25 (by simpa [upb] using h), fun h => p26 (by simpa [upb] using h), fun h => p27 (by simpa [upb] using h), fun h => p28 (by simpa [upb] using h), fun h => p29 (by simpa [upb] using h), fun h => p30 (by simpa [upb] using h), fun h => p31 (by simpa [upb] using h), fun h => p32 (by simpa [upb] using h), fun h => p33 (by simpa [upb] using h), fun h => p8 (by simpa [upb] using h)⟩
    case op4 =>
      rintro bb _ w' ⟨x18, x19, x20, x21, x22, x23, x24, x25, x26, x27, x28, x29, x30, x31, x32, x33, x8, rfl, HB, R1, p18, p19, p21, p22, p23, p24, p25, p26, p27, p28, p29, p30, p31, p32, p33, p8⟩ hb hd K hK
      simp only [Act.put, List.setIfInBounds_toArray, List.set_cons_zero, List.set_cons_succ]
      rw [if_pos (by rfl)]
      go_simp
      exact hK _ _ ⟨x18, x19, x20, x21, .string s, x23, x24, x25, x26, x27, x28, x29, x30, x31, x32, x33, x8, by simp only [Act.put, List.setIfInBounds_toArray, List.set_cons_zero, List.set_cons_succ], HB, fun h => R1 (by simpa [upb] using h), fun h => p18 (by simpa [upb] using h), fun h => p19 (by simpa [upb] using h), fun h => p21 (by simpa [upb] using h), fun _ => rfl, fun h => p23 (by simpa [upb] using h), fun h => p24 (by simpa [upb] using h), fun h => p25 (by simpa [upb] using h), fun h => p26 (by simpa [upb] using h), fun h => p27 (by simpa [upb] using h), fun h => p28 (by simpa [upb] using h), fun h => p29 (by simpa [upb] using h), fun h => p30 (by simpa [upb] using h), fun h => p31 (by simpa [upb] using h), fun h => p32 (by simpa [upb] using h), fun h => p33 (by simpa [upb] using h), fun h => p8 (by simpa [upb] using h)⟩
    case op5 =>
      rintro bb _ w' ⟨x18, x19, x20, x21, x22, x23, x24, x25, x26, x27, x28, x29, x30, x31, x32, x33, x8, rfl, HB, R1, p18, p19, p21, p22, p23, p24, p25, p26, p27, p28, p29, p30, p31, p32, p33, p8⟩ hb hd K hK
      simp only [Act.put, List.setIfInBounds_toArray, List.set_cons_zero, List.set_cons_succ]
      obtain rfl := (p22 (hd 4 (by decide))).symm
      rw [if_pos (by rfl)]
      go_simp
      exact hK _ _ ⟨x18, x19, x20, x21, .string s, .int .i64 (s.size : Int), x24, x25, x26, x27, x28, x29, x30, x31, x32, x33, x8, by simp only [Act.put, List.setIfInBounds_toArray, List.set_cons_zero, List.set_cons_succ], HB, fun h => R1 (by simpa [upb] using h), fun h => p18 (by simpa [upb] using h), fun h => p19 (by simpa [upb] using h), fun h => p21 (by simpa [upb] using h), fun _ => rfl, fun _ => rfl, fun h => p24 (by simpa [upb] using h), fun h => p25 (by simpa [upb] using h), fun h => p26 (by simpa [upb] using h), fun h => p27 (by simpa [upb] using h), fun h => p28 (by simpa [upb] using h), fun h => p29 (by simpa [upb] using h), fun h => p30 (by simpa [upb] using h), fun h => p31 (by simpa [upb] using h), fun h => p32 (by simpa [upb] using h), fun h => p33 (by simpa [upb] using h), fun h => p8 (by simpa [upb] using h)⟩
    case op6 =>
      rintro bb _ w' ⟨x18, x19, x20, x21, x22, x23, x24, x25, x26, x27, x28, x29, x30, x31, x32, x33, x8, rfl, HB, R1, p18, p19, p21, p22, p23, p24, p25, p26, p27, p28, p29, p30, p31, p32, p33, p8⟩ hb hd K hK
      simp only [Act.put, List.setIfInBounds_toArray, List.set_cons_zero, List.set_cons_succ]
      obtain rfl := (p23 (hd 5 (by decide))).symm
      rw [if_pos (by rfl)]
      go_simp
      exact hK _ _ ⟨x18, x19, x20, x21, x22, .int .i64 (s.size : Int), .int .u64 (s.size : Int), x25, x26, x27, x28, x29, x30, x31, x32, x33, x8, by simp only [Act.put, List.setIfInBounds_toArray, List.set_cons_zero, List.set_cons_succ], HB, fun h => R1 (by simpa [upb] using h), fun h => p18 (by simpa [upb] using h), fun h => p19 (by simpa [upb] using h), fun h => p21 (by simpa [upb] using h), fun h => p22 (by simpa [upb] using h), fun _ => rfl, fun _ => rfl, fun h => p25 (by simpa [upb] using h), fun h => p26 (by simpa [upb] using h), fun h => p27 (by simpa [upb] using h), fun h => p28 (by simpa [upb] using h), fun h => p29 (by simpa [upb] using h), fun h => p30 (by simpa [upb] using h), fun h => p31 (by simpa [upb] using h), fun h => p32 (by simpa [upb] using h), fun h => p33 (by simpa [upb] using h), fun h => p8 (by simpa [upb] using h)⟩
    case op7 =>
      rintro bb _ w' ⟨x18, x19, x20, x21, x22, x23, x24, x25, x26, x27, x28, x29, x30, x31, x32, x33, x8, rfl, HB, R1, p18, p19, p21, p22, p23, p24, p25, p26, p27, p28, p29, p30, p31, p32, p33, p8⟩ hb hd K hK
      simp only [Act.put, List.setIfInBounds_toArray, List.set_cons_zero, List.set_cons_succ]
      obtain rfl := (p24 (hd 6 (by decide))).symm
      rw [if_pos (by rfl)]
      have hc := rematchref01_Varint.calls kv (s.size : Int) sv w' HV1.out
      go_simp
      refine hc.mono ?_; rintro e w3 ⟨rfl, b3⟩
      have HB2 := below_then HB HB.size b3
      try dsimp only
      exact hK _ _ ⟨x18, x19, x20, x21, x22, x23, .int .u64 (s.size : Int), .string sv, x26, x27, x28, x29, x30, x31, x32, x33, x8, by simp only [Act.put, List.setIfInBounds_toArray, List.set_cons_zero, List.set_cons_succ], HB2, fun h => by obtain ⟨gq, e3, C3⟩ := R1 (by simpa [upb] using h); exact ⟨gq, e3, Kd.C_below C3 b3⟩, fun h => p18 (by simpa [upb] using h), fun h => p19 (by simpa [upb] using h), fun h => p21 (by simpa [upb] using h), fun h => p22 (by simpa [upb] using h), fun h => p23 (by simpa [upb] using h), fun _ => rfl, fun _ => rfl, fun h => p26 (by simpa [upb] using h), fun h => p27 (by simpa [upb] using h), fun h => p28 (by simpa [upb] using h), fun h => p29 (by simpa [upb] using h), fun h => p30 (by simpa [upb] using h), fun h => p31 (by simpa [upb] using h), fun h => p32 (by simpa [upb] using h), fun h => p33 (by simpa [upb] using h), fun h => p8 (by simpa [upb] using h)⟩
    case op8 =>
      rintro bb _ w' ⟨x18, x19, x20, x21, x22, x23, x24, x25, x26, x27, x28, x29, x30, x31, x32, x33, x8, rfl, HB, R1, p18, p19, p21, p22, p23, p24, p25, p26, p27, p28, p29, p30, p31, p32, p33, p8⟩ hb hd K hK
      simp only [Act.put, List.setIfInBounds_toArray, List.set_cons_zero, List.set_cons_succ]
      obtain rfl := (p21 (hd 3 (by decide))).symm
      obtain rfl := (p25 (hd 7 (by decide))).symm
      rw [if_pos (by rfl)]
      have z := Z1.out
      go_simp
      exact hK _ _ ⟨x18, x19, x20, .string kh, x22, x23, x24, .string sv, .string (kh ++ sv), x27, x28, x29, x30, x31, x32, x33, x8, by simp only [Act.put, List.setIfInBounds_toArray, List.set_cons_zero, List.set_cons_succ], HB, fun h => R1 (by simpa [upb] using h), fun h => p18 (by simpa [upb] using h), fun h => p19 (by simpa [upb] using h), fun _ => rfl, fun h => p22 (by simpa [upb] using h), fun h => p23 (by simpa [upb] using h), fun h => p24 (by simpa [upb] using h), fun _ => rfl, fun _ => rfl, fun h => p27 (by simpa [upb] using h), fun h => p28 (by simpa [upb] using h), fun h => p29 (by simpa [upb] using h), fun h => p30 (by simpa [upb] using h), fun h => p31 (by simpa [upb] using h), fun h => p32 (by simpa [upb] using h), fun h => p33 (by simpa [upb] using h), fun h => p8 (by simpa [upb] using h)⟩
    case op9 =>
      rintro bb _ w' ⟨x18, x19, x20, x21, x22, x23, x24, x25, x26, x27, x28, x29, x30, x31, x32, x33, x8, rfl, HB, R1, p18, p19, p21, p22, p23, p24, p25, p26, p27, p28, p29, p30, p31, p32, p33, p8⟩ hb hd K hK
      simp only [Act.put, List.setIfInBounds_toArray, List.set_cons_zero, List.set_cons_succ]
      rw [if_pos (by rfl)]
      go_simp
      exact hK _ _ ⟨x18, x19, x20, x21, x22, x23, x24, x25, x26, .string sP, x28, x29, x30, x31, x32, x33, x8, by simp only [Act.put, List.setIfInBounds_toArray, List.set_cons_zero, List.set_cons_succ], HB, fun h => R1 (by simpa [upb] using h), fun h => p18 (by simpa [upb] using h), fun h => p19 (by simpa [upb] using h), fun h => p21 (by simpa [upb] using h), fun h => p22 (by simpa [upb] using h), fun h => p23 (by simpa [upb] using h), fun h => p24 (by simpa [upb] using h), fun h => p25 (by simpa [upb] using h), fun h => p26 (by simpa [upb] using h), fun _ => rfl, fun h => p28 (by simpa [upb] using h), fun h => p29 (by simpa [upb] using h), fun h => p30 (by simpa [upb] using h), fun h => p31 (by simpa [upb] using h), fun h => p32 (by simpa [upb] using h), fun h => p33 (by simpa [upb] using h), fun h => p8 (by simpa [upb] using h)⟩
    case op10 =>
      rintro bb _ w' ⟨x18, x19, x20, x21, x22, x23, x24, x25, x26, x27, x28, x29, x30, x31, x32, x33, x8, rfl, HB, R1, p18, p19, p21, p22, p23, p24, p25, p26, p27, p28, p29, p30, p31, p32, p33, p8⟩ hb hd K hK
      simp only [Act.put, List.setIfInBounds_toArray, List.set_cons_zero, List.set_cons_succ]
      obtain rfl := (p27 (hd 9 (by decide))).symm
      rw [if_pos (by rfl)]
      go_simp
      exact hK _ _ ⟨x18, x19, x20, x21, x22, x23, x24, x25, x26, .string sP, .int .i64 (sP.size : Int), x29, x30, x31, x32, x33, x8, by simp only [Act.put, List.setIfInBounds_toArray, List.set_cons_zero, List.set_cons_succ], HB, fun h => R1 (by simpa [upb] using h), fun h => p18 (by simpa [upb] using h), fun h => p19 (by simpa [upb] using h), fun h => p21 (by simpa [upb] using h), fun h => p22 (by simpa [upb] using h), fun h => p23 (by simpa [upb] using h), fun h => p24 (by simpa [upb] using h), fun h => p25 (by simpa [upb] using h), fun h => p26 (by simpa [upb] using h), fun _ => rfl, fun _ => rfl, fun h => p29 (by simpa [upb] using h), fun h => p30 (by simpa [upb] using h), fun h => p31 (by simpa [upb] using h), fun h => p32 (by simpa [upb] using h), fun h => p33 (by simpa [upb] using h), fun h => p8 (by simpa [upb] using h)⟩
    case op11 =>
      rintro bb _ w' ⟨x18, x19, x20, x21, x22, x23, x24, x25, x26, x27, x28, x29, x30, x31, x32, x33, x8, rfl, HB, R1, p18, p19, p21, p22, p23, p24, p25, p26, p27, p28, p29, p30, p31, p32, p33, p8⟩ hb hd K hK
      simp only [Act.put, List.setIfInBounds_toArray, List.set_cons_zero, List.set_cons_succ]
      obtain rfl := (p28 (hd 10 (by decide))).symm
      rw [if_pos (by rfl)]
      go_simp
      exact hK _ _ ⟨x18, x19, x20, x21, x22, x23, x24, x25, x26, x27, .int .i64 (sP.size : Int), .int .u64 (sP.size : Int), x30, x31, x32, x33, x8, by simp only [Act.put, List.setIfInBounds_toArray, List.set_cons_zero, List.set_cons_succ], HB, fun h => R1 (by simpa [upb] using h), fun h => p18 (by simpa [upb] using h), fun h => p19 (by simpa [upb] using h), fun h => p21 (by simpa [upb] using h), fun h => p22 (by simpa [upb] using h), fun h => p23 (by simpa [upb] using h), fun h => p24 (by simpa [upb] using h), fun h => p25 (by simpa [upb] using h), fun h => p26 (by simpa [upb] using h), fun h => p27 (by simpa [upb] using h), fun _ => rfl, fun _ => rfl, fun h => p30 (by simpa [upb] using h), fun h => p31 (by simpa [upb] using h), fun h => p32 (by simpa [upb] using h), fun h => p33 (by simpa [upb] using h), fun h => p8 (by simpa [upb] using h)⟩
    case op12 =>
      rintro bb _ w' ⟨x18, x19, x20, x21, x22, x23, x24, x25, x26, x27, x28, x29, x30, x31, x32, x33, x8, rfl, HB, R1, p18, p19, p21, p22, p23, p24, p25, p26, p27, p28, p29, p30, p31, p32, p33, p8⟩ hb hd K hK
      simp only [Act.put, List.setIfInBounds_toArray, List.set_cons_zero, List.set_cons_succ]
      obtain rfl := (p29 (hd 11 (by decide))).symm
      rw [if_pos (by rfl)]
      have hc := rematchref01_Varint.calls kv (sP.size : Int) su w' HV2.out
      go_simp
      refine hc.mono ?_; rintro e w3 ⟨rfl, b3⟩
      have HB2 := below_then HB HB.size b3
      try dsimp only
      exact hK _ _ ⟨x18, x19, x20, x21, x22, x23, x24, x25, x26, x27, x28, .int .u64 (sP.size : Int), .string su, x31, x32, x33, x8, by simp only [Act.put, List.setIfInBounds_toArray, List.set_cons_zero, List.set_cons_succ], HB2, fun h => by obtain ⟨gq, e3, C3⟩ := R1 (by simpa [upb] using h); exact ⟨gq, e3, Kd.C_below C3 b3⟩, fun h => p18 (by simpa [upb] using h), fun h => p19 (by simpa [upb] using h), fun h => p21 (by simpa [upb] using h), fun h => p22 (by simpa [upb] using h), fun h => p23 (by simpa [upb] using h), fun h => p24 (by simpa [upb] using h), fun h => p25 (by simpa [upb] using h), fun h => p26 (by simpa [upb] using h), fun h => p27 (by simpa [upb] using h), fun h => p28 (by simpa [upb] using h), fun _ => rfl, fun _ => rfl, fun h => p31 (by simpa [upb] using h), fun h => p32 (by simpa [upb] using h), fun h => p33 (by simpa [upb] using h), fun h => p8 (by simpa [upb] using h)⟩
    case op13 =>
      rintro bb _ w' ⟨x18, x19, x20, x21, x22, x23, x24, x25, x26, x27, x28, x29, x30, x31, x32, x33, x8, rfl, HB, R1, p18, p19, p21, p22, p23, p24, p25, p26, p27, p28, p29, p30, p31, p32, p33, p8⟩ hb hd K hK
      simp only [Act.put, List.setIfInBounds_toArray, List.set_cons_zero, List.set_cons_succ]
      obtain rfl := (p26 (hd 8 (by decide))).symm
      obtain rfl := (p30 (hd 12 (by decide))).symm
      rw [if_pos (by rfl)]
      have z := Z2.out
      have z' : ¬ 9223372036854775807 < (kh ++ sv).size + su.size := by rw [ByteArray.size_append]; exact z
      go_simp
      exact hK _ _ ⟨x18, x19, x20, x21, x22, x23, x24, x25, .string (kh ++ sv), x27, x28, x29, .string su, .string (kh ++ sv ++ su), x32, x33, x8, by simp only [Act.put, List.setIfInBounds_toArray, List.set_cons_zero, List.set_cons_succ], HB, fun h => R1 (by simpa [upb] using h), fun h => p18 (by simpa [upb] using h), fun h => p19 (by simpa [upb] using h), fun h => p21 (by simpa [upb] using h), fun h => p22 (by simpa [upb] using h), fun h => p23 (by simpa [upb] using h), fun h => p24 (by simpa [upb] using h), fun h => p25 (by simpa [upb] using h), fun _ => rfl, fun h => p27 (by simpa [upb] using h), fun h => p28 (by simpa [upb] using h), fun h => p29 (by simpa [upb] using h), fun _ => rfl, fun _ => rfl, fun h => p32 (by simpa [upb] using h), fun h => p33 (by simpa [upb] using h), fun h => p8 (by simpa [upb] using h)⟩
    case op14 =>
      rintro bb _ w' ⟨x18, x19, x20, x21, x22, x23, x24, x25, x26, x27, x28, x29, x30, x31, x32, x33, x8, rfl, HB, R1, p18, p19, p21, p22, p23, p24, p25, p26, p27, p28, p29, p30, p31, p32, p33, p8⟩ hb hd K hK
      simp only [Act.put, List.setIfInBounds_toArray, List.set_cons_zero, List.set_cons_succ]
      rw [if_pos (by rfl)]
      go_simp
      exact hK _ _ ⟨x18, x19, x20, x21, x22, x23, x24, x25, x26, x27, x28, x29, x30, x31, .string sP, x33, x8, by simp only [Act.put, List.setIfInBounds_toArray, List.set_cons_zero, List.set_cons_succ], HB, fun h => R1 (by simpa [upb] using h), fun h => p18 (by simpa [upb] using h), fun h => p19 (by simpa [upb] using h), fun h => p21 (by simpa [upb] using h), fun h => p22 (by simpa [upb] using h), fun h => p23 (by simpa [upb] using h), fun h => p24 (by simpa [upb] using h), fun h => p25 (by simpa [upb] using h), fun h => p26 (by simpa [upb] using h), fun h => p27 (by simpa [upb] using h), fun h => p28 (by simpa [upb] using h), fun h => p29 (by simpa [upb] using h), fun h => p30 (by simpa [upb] using h), fun h => p31 (by simpa [upb] using h), fun _ => rfl, fun h => p33 (by simpa [upb] using h), fun h => p8 (by simpa [upb] using h)⟩
    case op15 =>
      rintro bb _ w' ⟨x18, x19, x20, x21, x22, x23, x24, x25, x26, x27, x28, x29, x30, x31, x32, x33, x8, rfl, HB, R1, p18, p19, p21, p22, p23, p24, p25, p26, p27, p28, p29, p30, p31, p32, p33, p8⟩ hb hd K hK
      simp only [Act.put, List.setIfInBounds_toArray, List.set_cons_zero, List.set_cons_succ]
      obtain rfl := (p31 (hd 13 (by decide))).symm
      obtain rfl := (p32 (hd 14 (by decide))).symm
      rw [if_pos (by rfl)]
      have z := Z3.out
      have z' : ¬ 9223372036854775807 < (kh ++ sv ++ su).size + sP.size := by rw [ByteArray.size_append, ByteArray.size_append]; exact z
      go_simp
      exact hK _ _ ⟨x18, x19, x20, x21, x22, x23, x24, x25, x26, x27, x28, x29, x30, .string (kh ++ sv ++ su), .string sP, .string (kh ++ sv ++ su ++ sP), x8, by simp only [Act.put, List.setIfInBounds_toArray, List.set_cons_zero, List.set_cons_succ], HB, fun h => R1 (by simpa [upb] using h), fun h => p18 (by simpa [upb] using h), fun h => p19 (by simpa [upb] using h), fun h => p21 (by simpa [upb] using h), fun h => p22 (by simpa [upb] using h), fun h => p23 (by simpa [upb] using h), fun h => p24 (by simpa [upb] using h), fun h => p25 (by simpa [upb] using h), fun h => p26 (by simpa [upb] using h), fun h => p27 (by simpa [upb] using h), fun h => p28 (by simpa [upb] using h), fun h => p29 (by simpa [upb] using h), fun h => p30 (by simpa [upb] using h), fun _ => rfl, fun _ => rfl, fun _ => rfl, fun h => p8 (by simpa [upb] using h)⟩
    case op16 =>
      rintro bb _ w' ⟨x18, x19, x20, x21, x22, x23, x24, x25, x26, x27, x28, x29, x30, x31, x32, x33, x8, rfl, HB, R1, p18, p19, p21, p22, p23, p24, p25, p26, p27, p28, p29, p30, p31, p32, p33, p8⟩ hb hd K hK
      simp only [Act.put, List.setIfInBounds_toArray, List.set_cons_zero, List.set_cons_succ]
      obtain rfl := (p33 (hd 15 (by decide))).symm
      rw [if_pos (by rfl)]
      go_simp
      exact hK _ _ ⟨x18, x19, x20, x21, x22, x23, x24, x25, x26, x27, x28, x29, x30, x31, x32, .string (kh ++ sv ++ su ++ sP), .string (kh ++ sv ++ su ++ sP), by simp only [Act.put, List.setIfInBounds_toArray, List.set_cons_zero, List.set_cons_succ], HB, fun h => R1 (by simpa [upb] using h), fun h => p18 (by simpa [upb] using h), fun h => p19 (by simpa [upb] using h), fun h => p21 (by simpa [upb] using h), fun h => p22 (by simpa [upb] using h), fun h => p23 (by simpa [upb] using h), fun h => p24 (by simpa [upb] using h), fun h => p25 (by simpa [upb] using h), fun h => p26 (by simpa [upb] using h), fun h => p27 (by simpa [upb] using h), fun h => p28 (by simpa [upb] using h), fun h => p29 (by simpa [upb] using h), fun h => p30 (by simpa [upb] using h), fun h => p31 (by simpa [upb] using h), fun h => p32 (by simpa [upb] using h), fun _ => rfl, fun _ => rfl⟩
    case done =>
      rintro bb _ w' hb ⟨x18, x19, x20, x21, x22, x23, x24, x25, x26, x27, x28, x29, x30, x31, x32, x33, x8, rfl, HB, R1, p18, p19, p21, p22, p23, p24, p25, p26, p27, p28, p29, p30, p31, p32, p33, p8⟩
      obtain rfl := (p18 (hb 0 (by decide))).symm
      obtain rfl := (p19 (hb 1 (by decide))).symm
      obtain rfl := (p21 (hb 3 (by decide))).symm
      obtain rfl := (p22 (hb 4 (by decide))).symm
      obtain rfl := (p23 (hb 5 (by decide))).symm
      obtain rfl := (p24 (hb 6 (by decide))).symm
      obtain rfl := (p25 (hb 7 (by decide))).symm
      obtain rfl := (p26 (hb 8 (by decide))).symm
      obtain rfl := (p27 (hb 9 (by decide))).symm
      obtain rfl := (p28 (hb 10 (by decide))).symm
      obtain rfl := (p29 (hb 11 (by decide))).symm
      obtain rfl := (p30 (hb 12 (by decide))).symm
      obtain rfl := (p31 (hb 13 (by decide))).symm
      obtain rfl := (p32 (hb 14 (by decide))).symm
      obtain rfl := (p33 (hb 15 (by decide))).symm
      obtain rfl := (p8 (hb 16 (by decide))).symm
      simp only [Act.put, List.setIfInBounds_toArray, List.set_cons_zero, List.set_cons_succ]
      clear hb p18 p19 p21 p22 p23 p24 p25 p26 p27 p28 p29 p30 p31 p32 p33 p8
      clear R1
      obtain ⟨X, hXX⟩ : ∃ X, kh ++ sv ++ su ++ sP = X := ⟨_, rfl⟩
      have HMX := Lib.hid (show X = strOfNums M by rw [← hXX, HM.out])
      have HZX := Lib.hid (show ¬ 9223372036854775807 < X.size + sf.size by rw [← hXX, ByteArray.size_append, ByteArray.size_append, ByteArray.size_append]; exact Z4.out)
      rw [hXX]
      clear hXX HM HE Z1 Z2 Z3 Z4
      have kb := print_bytes (P := Tryd.prog) 9 22 5 Tryd.underlying9 Tryd.underlying22 (by kernel_rfl) X w'
      go_wp2_with fail
      have HB2 := Lib.hid (bytes_below HB HB.size 5 X)
      have HRD := Lib.hid (show Rd (Lib.bytesWorld w' 5 X) (some ⟨w'.heap.size, 0, none⟩) X.size M by rw [HMX.out]; exact ck_conv_rd w' M HMB.out HML.out)
      refine (rsum_any _ _ _ M _ HRD.out).mono ?_; rintro e w5 ⟨rfl, hw5⟩
      clear kb HRD
      rw [hw5] at HB2
      clear hw5
      go_wp2_with fail
      refine (rematchref01_Fixed.calls (ck_crc M) sf _ HF.out).mono ?_; rintro e w6 ⟨rfl, b6⟩
      have z := HZX.out
      go_wp2_with fail
      go_ret
      exact ⟨by rw [HMX.out]; rfl, below_then HB1.out HB1.out.size (below_then HB2.out HB2.out.size b6)⟩
  · have hlt' : ¬ (sP.size : Int) < s.size := by have := HZ.out; omega
    obtain ⟨kh, hkh⟩ : ∃ s, s = strOfNums [kind, 0] := ⟨_, rfl⟩
    obtain ⟨su, hsu⟩ : ∃ s, s = strOfNums (wire_vb 9 (data.length : Int)) := ⟨_, rfl⟩
    have HV2 := Lib.hid (show rematchref01_Varint.f kv (s.size : Int) = some su by rw [hsu, show s.size = data.length by have := HZ.out; omega]; exact HVV.out _ (by have := HZ.out; omega))
    have hcat : kh ++ sv ++ su ++ s = strOfNums M := by
      rw [hkh, Hsv.out, hsu, Hs.out, ← str_app, ← str_app, ← str_app, ← HMD.out]
      unfold ck_main ck_how ck_body
      rw [HP.out]
      first
        | rw [if_pos hlt, if_pos hlt]
        | rw [if_neg hlt, if_neg hlt]
    have hn1 : kh.size = 2 := by rw [hkh, str_size]; rfl
    have hn2 : sv.size ≤ 10 := by rw [Hsv.out, str_size]; exact ck_vb_len 9 _
    have hn3 : su.size ≤ 10 := by rw [hsu, str_size]; exact ck_vb_len 9 _
    have hn4 : s.size ≤ 2000 := by have := HZ.out; omega
    have hn5 : sf.size = 4 := by rw [Hsf.out, str_size]; rfl
    have Z1 := Lib.hid (show ¬ 9223372036854775807 < kh.size + sv.size by omega)
    have Z2 := Lib.hid (show ¬ 9223372036854775807 < kh.size + sv.size + su.size by omega)
    have Z3 := Lib.hid (show ¬ 9223372036854775807 < kh.size + sv.size + su.size + s.size by omega)
    have Z4 := Lib.hid (show ¬ 9223372036854775807 < kh.size + sv.size + su.size + s.size + sf.size by omega)
    clear hn1 hn2 hn3 hn4 hn5
    have HM := Lib.hid hcat
    have HE := Lib.hid (show kh ++ sv ++ su ++ s ++ sf = strOfNums M ++ sf by rw [hcat])
    have Hkh := Lib.hid hkh
    clear hkh hsu hcat
    go_enter Tryd.func8, Tryd.ntmps8
    go_wp2_with fail
    refine (HPK.out _).mono ?_; rintro e w1 ⟨rfl, b1⟩
    have HB1 := Lib.hid b1
    clear b1
    go_wp2_with fail
    rw [show decide (sP.size < s.size) = false from decide_eq_false (by have := HZ.out; omega)]
    refine wp_region_inv (fun a0 w_0 b a' w' => ∃ x18 x19 x20 x21 x22 x23 x24 x25 x26 x27 x28 x29 x30 x31 x32 x33 x8 : Value, a' = (((((((((((((((((a0.put (some 18) x18).put (some 19) x19).put (some 20) x20).put (some 21) x21).put (some 22) x22).put (some 23) x23).put (some 24) x24).put (some 25) x25).put (some 26) x26).put (some 27) x27).put (some 28) x28).put (some 29) x29).put (some 30) x30).put (some 31) x31).put (some 32) x32).put (some 33) x33).put (some 8) x8) ∧ Below w1.heap.size w1 w' ∧ (b 2 = true → ∃ gq, x20 = .slice (some ⟨gq, 0, none⟩) 2 2 ∧ Kd.C (Kd.int .u8) w' (some ⟨gq, 0, none⟩) 2 [kind, 0]) ∧ (b 0 = true → x18 = .int .u8 kind) ∧ (b 1 = true → x19 = .int .u8 0) ∧ (b 3 = true → x21 = .string kh) ∧ (b 4 = true → x22 = .string s) ∧ (b 5 = true → x23 = .int .i64 (s.size : Int)) ∧ (b 6 = true → x24 = .int .u64 (s.size : Int)) ∧ (b 7 = true → x25 = .string sv) ∧ (b 8 = true → x26 = .string (kh ++ sv)) ∧ (b 9 = true → x27 = .string s) ∧ (b 10 = true → x28 = .int .i64 (s.size : Int)) ∧ (b 11 = true → x29 = .int .u64 (s.size : Int)) ∧ (b 12 = true → x30 = .string su) ∧ (b 13 = true → x31 = .string (kh ++ sv ++ su)) ∧ (b 14 = true → x32 = .string s) ∧ (b 15 = true → x33 = .string (kh ++ sv ++ su ++ s)) ∧ (b 16 = true → x8 = .string (kh ++ sv ++ su ++ s))) (by kernel_rfl) (by kernel_rfl) ?start ⟨?op0, ?op1, ?op2, ?op3, ?op4, ?op5, ?op6, ?op7, ?op8, ?op9, ?op10, ?op11, ?op12, ?op13, ?op14, ?op15, ?op16, trivial⟩ ?done
    case start => exact ⟨_, _, _, _, _, _, _, _, _, _, _, _, _, _, _, _, _, by simp only [Act.put, List.setIfInBounds_toArray, List.set_cons_zero, List.set_cons_succ]; rfl, below_drew1 (Below.refl _ _), fun h => absurd h (by decide), fun h => absurd h (by decide), fun h => absurd h (by decide), fun h => absurd h (by decide), fun h => absurd h (by decide), fun h => absurd h (by decide), fun h => absurd h (by decide), fun h => absurd h (by decide), fun h => absurd h (by decide), fun h => absurd h (by decide), fun h => absurd h (by decide), fun h => absurd h (by decide), fun h => absurd h (by decide), fun h => absurd h (by decide), fun h => absurd h (by decide), fun h => absurd h (by decide), fun h => absurd h (by decide)⟩
    case op0 =>
      rintro bb _ w' ⟨x18, x19, x20, x21, x22, x23, x24, x25, x26, x27, x28, x29, x30, x31, x32, x33, x8, rfl, HB, R1, p18, p19, p21, p22, p23, p24, p25, p26, p27, p28, p29, p30, p31, p32, p33, p8⟩ hb hd K hK
      simp only [Act.put, List.setIfInBounds_toArray, List.set_cons_zero, List.set_cons_succ]
      rw [if_pos (by rfl)]
      go_simp
      exact hK _ _ ⟨.int .u8 kind, x19, x20, x21, x22, x23, x24, x25, x26, x27, x28, x29, x30, x31, x32, x33, x8, by simp only [Act.put, List.setIfInBounds_toArray, List.set_cons_zero, List.set_cons_succ], HB, fun h => R1 (by simpa [upb] using h), fun _ => rfl, fun h => p19 (by simpa [upb] using h), fun h => p21 (by simpa [upb] using h), fun h => p22 (by simpa [upb] using h), fun h => p23 (by simpa [upb] using h), fun h => p24 (by simpa [upb] using h), fun h => p25 (by simpa [upb] using h), fun h => p26 (by simpa [upb] using h), fun h => p27 (by simpa [upb] using h), fun h => p28 (by simpa [upb] using h), fun h => p29 (by simpa [upb] using h), fun h => p30 (by simpa [upb] using h), fun h => p31 (by simpa [upb] using h), fun h => p32 (by simpa [upb] using h), fun h => p33 (by simpa [upb] using h), fun h => p8 (by simpa [upb] using h)⟩
    case op1 =>
      rintro bb _ w' ⟨x18, x19, x20, x21, x22, x23, x24, x25, x26, x27, x28, x29, x30, x31, x32, x33, x8, rfl, HB, R1, p18, p19, p21, p22, p23, p24, p25, p26, p27, p28, p29, p30, p31, p32, p33, p8⟩ hb hd K hK
      simp only [Act.put, List.setIfInBounds_toArray, List.set_cons_zero, List.set_cons_succ]
      rw [if_pos (by rfl)]
      go_simp
      exact hK _ _ ⟨x18, .int .u8 0, x20, x21, x22, x23, x24, x25, x26, x27, x28, x29, x30, x31, x32, x33, x8, by simp only [Act.put, List.setIfInBounds_toArray, List.set_cons_zero, List.set_cons_succ], HB, fun h => R1 (by simpa [upb] using h), fun h => p18 (by simpa [upb] using h), fun _ => rfl, fun h => p21 (by simpa [upb] using h), fun h => p22 (by simpa [upb] using h), fun h => p23 (by simpa [upb] using h), fun h => p24 (by simpa [upb] using h), fun h => p25 (by simpa [upb] using h), fun h => p26 (by simpa [upb] using h), fun h => p27 (by simpa [upb] using h), fun h => p28 (by simpa [upb] using h), fun h => p29 (by simpa [upb] using h), fun h => p30 (by simpa [upb] using h), fun h => p31 (by simpa [upb] using h), fun h => p32 (by simpa [upb] using h), fun h => p33 (by simpa [upb] using h), fun h => p8 (by simpa [upb] using h)⟩
    case op2 =>
      rintro bb _ w' ⟨x18, x19, x20, x21, x22, x23, x24, x25, x26, x27, x28, x29, x30, x31, x32, x33, x8, rfl, HB, R1, p18, p19, p21, p22, p23, p24, p25, p26, p27, p28, p29, p30, p31, p32, p33, p8⟩ hb hd K hK
      simp only [Act.put, List.setIfInBounds_toArray, List.set_cons_zero, List.set_cons_succ]
      obtain rfl := (p18 (hd 0 (by decide))).symm
      obtain rfl := (p19 (hd 1 (by decide))).symm
      rw [if_pos (by rfl)]
      go_simp
      exact hK _ _ ⟨.int .u8 kind, .int .u8 0, .slice (some ⟨w'.heap.size, 0, none⟩) 2 2, x21, x22, x23, x24, x25, x26, x27, x28, x29, x30, x31, x32, x33, x8, by simp only [Act.put, List.setIfInBounds_toArray, List.set_cons_zero, List.set_cons_succ], below_alloc HB _, fun _ => ⟨_, rfl, ck_str_bytes _ _ (blk_new _ _)⟩, fun _ => rfl, fun _ => rfl, fun h => p21 (by simpa [upb] using h), fun h => p22 (by simpa [upb] using h), fun h => p23 (by simpa [upb] using h), fun h => p24 (by simpa [upb] using h), fun h => p25 (by simpa [upb] using h), fun h => p26 (by simpa [upb] using h), fun h => p27 (by simpa [upb] using h), fun h => p28 (by simpa [upb] using h), fun h => p29 (by simpa [upb] using h), fun h => p30 (by simpa [upb] using h), fun h => p31 (by simpa [upb] using h), fun h => p32 (by simpa [upb] using h), fun h => p33 (by simpa [upb] using h), fun h => p8 (by simpa [upb] using h)⟩
    case op3 =>
      rintro bb _ w' ⟨x18, x19, x20, x21, x22, x23, x24, x25, x26, x27, x28, x29, x30, x31, x32, x33, x8, rfl, HB, R1, p18, p19, p21, p22, p23, p24, p25, p26, p27, p28, p29, p30, p31, p32, p33, p8⟩ hb hd K hK
      simp only [Act.put, List.setIfInBounds_toArray, List.set_cons_zero, List.set_cons_succ]
      rw [if_pos (by rfl)]
      obtain ⟨gq, e3, C3⟩ := R1 (hd 2 (by decide))
      subst e3
      have k3 := Kd.C_string (P := Tryd.prog) (src := 22) (dst := 9) (n := 2) (c := 2) Tryd.underlying22 (by kernel_rfl) Tryd.underlying9 C3
      rw [← Hkh.out] at k3
      go_simp
      exact hK _ _ ⟨x18, x19, .slice (some ⟨gq, 0, none⟩) 2 2, .string kh, x22, x23, x24, x25, x26, x27, x28, x29, x30, x31, x32, x33, x8, by simp only [Act.put, List.setIfInBounds_toArray, List.set_cons_zero, List.set_cons_succ], HB, fun h => ⟨gq, rfl, C3⟩, fun h => p18 (by simpa [upb] using h), fun h => p19 (by simpa [upb] using h), fun _ => rfl, fun h => p22 (by simpa [upb] using h), fun h => p23 (by simpa [upb] using h), fun h => p24 (by simpa [upb] using h), fun h => p25 (by simpa [upb] using h), fun h => p26 (by simpa [upb] using h), fun h => p27 (by simpa [upb] using h), fun h => p28 (by simpa [upb] using h), fun h => p29 (by simpa [upb] using h), fun h => p30 (by simpa [upb] using h), fun h => p31 (by simpa [upb] using h), fun h => p32 (by simpa [upb] using h), fun h => p33 (by simpa [upb] using h), fun h => p8 (by simpa [upb] using h)⟩
    case op4 =>
      rintro bb _ w' ⟨x18, x19, x20, x21, x22, x23, x24, x25, x26, x27, x28, x29, x30, x31, x32, x33, x8, rfl, HB, R1, p18, p19, p21, p22, p23, p24, p25, p26, p27, p28, p29, p30, p31, p32, p33, p8⟩ hb hd K hK
      simp only [Act.put, List.setIfInBounds_toArray, List.set_cons_zero, List.set_cons_succ]
      rw [if_pos (by rfl)]
      go_simp
      exact hK _ _ ⟨x18, x19, x20, x21, .string s, x23, x24, x25, x26, x27, x28, x29, x30, x31, x32, x33, x8, by simp only [Act.put, List.setIfInBounds_toArray, List.set_cons_zero, List.set_cons_succ], HB, fun h => R1 (by simpa [upb] using h), fun h => p18 (by simpa [upb] using h), fun h => p19 (by simpa [upb] using h), fun h => p21 (by simpa [upb] using h), fun _ => rfl, fun h => p23 (by simpa [upb] using h), fun h => p24 (by simpa [upb] using h), fun h => p25 (by simpa [upb] using h), fun h => p26 (by simpa [upb] using h), fun h => p27 (by simpa [upb] using h), fun h => p28 (by simpa [upb] using h), fun h => p29 (by simpa [upb] using h), fun h => p30 (by simpa [upb] using h), fun h => p31 (by simpa [upb] using h), fun h => p32 (by simpa [upb] using h), fun h => p33 (by simpa [upb] using h), fun h => p8 (by simpa [upb] using h)⟩
    case op5 =>
      rintro bb _ w' ⟨x18, x19, x20, x21, x22, x23, x24, x25, x26, x27, x28, x29, x30, x31, x32, x33, x8, rfl, HB, R1, p18, p19, p21, p22, p23, p24, p25, p26, p27, p28, p29, p30, p31, p32, p33, p8⟩ hb hd K hK
      simp only [Act.put, List.setIfInBounds_toArray, List.set_cons_zero, List.set_cons_succ]
      obtain rfl := (p22 (hd 4 (by decide))).symm
      rw [if_pos (by rfl)]
      go_simp
      exact hK _ _ ⟨x18, x19, x20, x21, .string s, .int .i64 (s.size : Int), x24, x25, x26, x27, x28, x29, x30, x31, x32, x33, x8, by simp only [Act.put, List.setIfInBounds_toArray, List.set_cons_zero, List.set_cons_succ], HB, fun h => R1 (by simpa [upb] using h), fun h => p18 (by simpa [upb] using h), fun h => p19 (by simpa [upb] using h), fun h => p21 (by simpa [upb] using h), fun _ => rfl, fun _ => rfl, fun h => p24 (by simpa [upb] using h), fun h => p25 (by simpa [upb] using h), fun h => p26 (by simpa [upb] using h), fun h => p27 (by simpa [upb] using h), fun h => p28 (by simpa [upb] using h), fun h => p29 (by simpa [upb] using h), fun h => p30 (by simpa [upb] using h), fun h => p31 (by simpa [upb] using h), fun h => p32 (by simpa [upb] using h), fun h => p33 (by simpa [upb] using h), fun h => p8 (by simpa [upb] using h)⟩
    case op6 =>
      rintro bb _ w' ⟨x18, x19, x20, x21, x22, x23, x24, x25, x26, x27, x28, x29, x30, x31, x32, x33, x8, rfl, HB, R1, p18, p19, p21, p22, p23, p24, p25, p26, p27, p28, p29, p30, p31, p32, p33, p8⟩ hb hd K hK
      simp only [Act.put, List.setIfInBounds_toArray, List.set_cons_zero, List.set_cons_succ]
      obtain rfl := (p23 (hd 5 (by decide))).symm
      rw [if_pos (by rfl)]
      go_simp
      exact hK _ _ ⟨x18, x19, x20, x21, x22, .int .i64 (s.size : Int), .int .u64 (s.size : Int), x25, x26, x27, x28, x29, x30, x31, x32, x33, x8, by simp only [Act.put, List.setIfInBounds_toArray, List.set_cons_zero, List.set_cons_succ], HB, fun h => R1 (by simpa [upb] using h), fun h => p18 (by simpa [upb] using h), fun h => p19 (by simpa [upb] using h), fun h => p21 (by simpa [upb] using h), fun h => p22 (by simpa [upb] using h), fun _ => rfl, fun _ => rfl, fun h => p25 (by simpa [upb] using h), fun h => p26 (by simpa [upb] using h), fun h => p27 (by simpa [upb] using h), fun h => p28 (by simpa [upb] using h), fun h => p29 (by simpa [upb] using h), fun h => p30 (by simpa [upb] using h), fun h => p31 (by simpa [upb] using h), fun h => p32 (by simpa [upb] using h), fun h => p33 (by simpa [upb] using h), fun h => p8 (by simpa [upb] using h)⟩
    case op7 =>
      rintro bb _ w' ⟨x18, x19, x20, x21, x22, x23, x24, x25, x26, x27, x28, x29, x30, x31, x32, x33, x8, rfl, HB, R1, p18, p19, p21, p22, p23, p24, p25, p26, p27, p28, p29, p30, p31, p32, p33, p8⟩ hb hd K hK
      simp only [Act.put, List.setIfInBounds_toArray, List.set_cons_zero, List.set_cons_succ]
      obtain rfl := (p24 (hd 6 (by decide))).symm
      rw [if_pos (by rfl)]
      have hc := rematchref01_Varint.calls kv (s.size : Int) sv w' HV1.out
      go_simp
      refine hc.mono ?_; rintro e w3 ⟨rfl, b3⟩
      have HB2 := below_then HB HB.size b3
      try dsimp only
      exact hK _ _ ⟨x18, x19, x20, x21, x22, x23, .int .u64 (s.size : Int), .string sv, x26, x27, x28, x29, x30, x31, x32, x33, x8, by simp only [Act.put, List.setIfInBounds_toArray, List.set_cons_zero, List.set_cons_succ], HB2, fun h => by obtain ⟨gq, e3, C3⟩ := R1 (by simpa [upb] using h); exact ⟨gq, e3, Kd.C_below C3 b3⟩, fun h => p18 (by simpa [upb] using h), fun h => p19 (by simpa [upb] using h), fun h => p21 (by simpa [upb] using h), fun h => p22 (by simpa [upb] using h), fun h => p23 (by simpa [upb] using h), fun _ => rfl, fun _ => rfl, fun h => p26 (by simpa [upb] using h), fun h => p27 (by simpa [upb] using h), fun h => p28 (by simpa [upb] using h), fun h => p29 (by simpa [upb] using h), fun h => p30 (by simpa [upb] using h), fun h => p31 (by simpa [upb] using h), fun h => p32 (by simpa [upb] using h), fun h => p33 (by simpa [upb] using h), fun h => p8 (by simpa [upb] using h)⟩
    case op8 =>
      rintro bb _ w' ⟨x18, x19, x20, x21, x22, x23, x24, x25, x26, x27, x28, x29, x30, x31, x32, x33, x8, rfl, HB, R1, p18, p19, p21, p22, p23, p24, p25, p26, p27, p28, p29, p30, p31, p32, p33, p8⟩ hb hd K hK
      simp only [Act.put, List.setIfInBounds_toArray, List.set_cons_zero, List.set_cons_succ]
      obtain rfl := (p21 (hd 3 (by decide))).symm
      obtain rfl := (p25 (hd 7 (by decide))).symm
      rw [if_pos (by rfl)]
      have z := Z1.out
      go_simp
      exact hK _ _ ⟨x18, x19, x20, .string kh, x22, x23, x24, .string sv, .string (kh ++ sv), x27, x28, x29, x30, x31, x32, x33, x8, by simp only [Act.put, List.setIfInBounds_toArray, List.set_cons_zero, List.set_cons_succ], HB, fun h => R1 (by simpa [upb] using h), fun h => p18 (by simpa [upb] using h), fun h => p19 (by simpa [upb] using h), fun _ => rfl, fun h => p22 (by simpa [upb] using h), fun h => p23 (by simpa [upb] using h), fun h => p24 (by simpa [upb] using h), fun _ => rfl, fun _ => rfl, fun h => p27 (by simpa [upb] using h), fun h => p28 (by simpa [upb] using h), fun h => p29 (by simpa [upb] using h), fun h => p30 (by simpa [upb] using h), fun h => p31 (by simpa [upb] using h), fun h => p32 (by simpa [upb] using h), fun h => p33 (by simpa [upb] using h), fun h => p8 (by simpa [upb] using h)⟩
    case op9 =>
      rintro bb _ w' ⟨x18, x19, x20, x21, x22, x23, x24, x25, x26, x27, x28, x29, x30, x31, x32, x33, x8, rfl, HB, R1, p18, p19, p21, p22, p23, p24, p25, p26, p27, p28, p29, p30, p31, p32, p33, p8⟩ hb hd K hK
      simp only [Act.put, List.setIfInBounds_toArray, List.set_cons_zero, List.set_cons_succ]
      rw [if_pos (by rfl)]
      go_simp
      exact hK _ _ ⟨x18, x19, x20, x21, x22, x23, x24, x25, x26, .string s, x28, x29, x30, x31, x32, x33, x8, by simp only [Act.put, List.setIfInBounds_toArray, List.set_cons_zero, List.set_cons_succ], HB, fun h => R1 (by simpa [upb] using h), fun h => p18 (by simpa [upb] using h), fun h => p19 (by simpa [upb] using h), fun h => p21 (by simpa [upb] using h), fun h => p22 (by simpa [upb] using h), fun h => p23 (by simpa [upb] using h), fun h => p24 (by simpa [upb] using h), fun h => p25 (by simpa [upb] using h), fun h => p26 (by simpa [upb] using h), fun _ => rfl, fun h => p28 (by simpa [upb] using h), fun h => p29 (by simpa [upb] using h), fun h => p30 (by simpa [upb] using h), fun h => p31 (by simpa [upb] using h), fun h => p32 (by simpa [upb] using h), fun h => p33 (by simpa [upb] using h), fun h => p8 (by simpa [upb] using h)⟩
    case op10 =>
      rintro bb _ w' ⟨x18, x19, x20, x21, x22, x23, x24, x25, x26, x27, x28, x29, x30, x31, x32, x33, x8, rfl, HB, R1, p18, p19, p21, p22, p23, p24, p25, p26, p27, p28, p29, p30, p31, p32, p33, p8⟩ hb hd K hK
      simp only [Act.put, List.setIfInBounds_toArray, List.set_cons_zero, List.set_cons_succ]
      obtain rfl := (p27 (hd 9 (by decide))).symm
      rw [if_pos (by rfl)]
      go_simp
      exact hK _ _ ⟨x18, x19, x20, x21, x22, x23, x24, x25, x26, .string s, .int .i64 (s.size : Int), x29, x30, x31, x32, x33, x8, by simp only [Act.put, List.setIfInBounds_toArray, List.set_cons_zero, List.set_cons_succ], HB, fun h => R1 (by simpa [upb] using h), fun h => p18 (by simpa [upb] using h), fun h => p19 (by simpa [upb] using h), fun h => p21 (by simpa [upb] using h), fun h => p22 (by simpa [upb] using h), fun h => p23 (by simpa [upb] using h), fun h => p24 (by simpa [upb] using h), fun h => p25 (by simpa [upb] using h), fun h => p26 (by simpa [upb] using h), fun _ => rfl, fun _ => rfl, fun h => p29 (by simpa [upb] using h), fun h => p30 (by simpa [upb] using h), fun h => p31 (by simpa [upb] using h), fun h => p32 (by simpa [upb] using h), fun h => p33 (by simpa [upb] using h), fun h => p8 (by simpa [upb] using h)⟩
    case op11 =>
      rintro bb _ w' ⟨x18, x19, x20, x21, x22, x23, x24, x25, x26, x27, x28, x29, x30, x31, x32, x33, x8, rfl, HB, R1, p18, p19, p21, p22, p23, p24, p25, p26, p27, p28, p29, p30, p31, p32, p33, p8⟩ hb hd K hK
      simp only [Act.put, List.setIfInBounds_toArray, List.set_cons_zero, List.set_cons_succ]
      obtain rfl := (p28 (hd 10 (by decide))).symm
      rw [if_pos (by rfl)]
      go_simp
      exact hK _ _ ⟨x18, x19, x20, x21, x22, x23, x24, x25, x26, x27, .int .i64 (s.size : Int), .int .u64 (s.size : Int), x30, x31, x32, x33, x8, by simp only [Act.put, List.setIfInBounds_toArray, List.set_cons_zero, List.set_cons_succ], HB, fun h => R1 (by simpa [upb] using h), fun h => p18 (by simpa [upb] using h), fun h => p19 (by simpa [upb] using h), fun h => p21 (by simpa [upb] using h), fun h => p22 (by simpa [upb] using h), fun h => p23 (by simpa [upb] using h), fun h => p24 (by simpa [upb] using h), fun h => p25 (by simpa [upb] using h), fun h => p26 (by simpa [upb] using h), fun h => p27 (by simpa [upb] using h), fun _ => rfl, fun _ => rfl, fun h => p30 (by simpa [upb] using h), fun h => p31 (by simpa [upb] using h), fun h => p32 (by simpa [upb] using h), fun h => p33 (by simpa [upb] using h), fun h => p8 (by simpa [upb] using h)⟩
    case op12 =>
      rintro bb _ w' ⟨x18, x19, x20, x21, x22, x23, x24, x25, x26, x27, x28, x29, x30, x31, x32, x33, x8, rfl, HB, R1, p18, p19, p21, p22, p23, p24, p25, p26, p27, p28, p29, p30, p31, p32, p33, p8⟩ hb hd K hK
      simp only [Act.put, List.setIfInBounds_toArray, List.set_cons_zero, List.set_cons_succ]
      obtain rfl := (p29 (hd 11 (by decide))).symm
      rw [if_pos (by rfl)]
      have hc := rematchref01_Varint.calls kv (s.size : Int) su w' HV2.out
      go_simp
      refine hc.mono ?_; rintro e w3 ⟨rfl, b3⟩
      have HB2 := below_then HB HB.size b3
      try dsimp only
      exact hK _ _ ⟨x18, x19, x20, x21, x22, x23, x24, x25, x26, x27, x28, .int .u64 (s.size : Int), .string su, x31, x32, x33, x8, by simp only [Act.put, List.setIfInBounds_toArray, List.set_cons_zero, List.set_cons_succ], HB2, fun h => by obtain ⟨gq, e3, C3⟩ := R1 (by simpa [upb] using h); exact ⟨gq, e3, Kd.C_below C3 b3⟩, fun h => p18 (by simpa [upb] using h), fun h => p19 (by simpa [upb] using h), fun h => p21 (by simpa [upb] using h), fun h => p22 (by simpa [upb] using h), fun h => p23 (by simpa [upb] using h), fun h => p24 (by simpa [upb] using h), fun h => p25 (by simpa [upb] using h), fun h => p26 (by simpa [upb] using h), fun h => p27 (by simpa [upb] using h), fun h => p28 (by simpa [upb] using h), fun _ => rfl, fun _ => rfl, fun h => p31 (by simpa [upb] using h), fun h => p32 (by simpa [upb] using h), fun h => p33 (by simpa [upb] using h), fun h => p8 (by simpa [upb] using h)⟩
    case op13 =>
      rintro bb _ w' ⟨x18, x19, x20, x21, x22, x23, x24, x25, x26, x27, x28, x29, x30, x31, x32, x33, x8, rfl, HB, R1, p18, p19, p21, p22, p23, p24, p25, p26, p27, p28, p29, p30, p31, p32, p33, p8⟩ hb hd K hK
      simp only [Act.put, List.setIfInBounds_toArray, List.set_cons_zero, List.set_cons_succ]
      obtain rfl := (p26 (hd 8 (by decide))).symm
      obtain rfl := (p30 (hd 12 (by decide))).symm
      rw [if_pos (by rfl)]
      have z := Z2.out
      have z' : ¬ 9223372036854775807 < (kh ++ sv).size + su.size := by rw [ByteArray.size_append]; exact z
      go_simp
      exact hK _ _ ⟨x18, x19, x20, x21, x22, x23, x24, x25, .string (kh ++ sv), x27, x28, x29, .string su, .string (kh ++ sv ++ su), x32, x33, x8, by simp only [Act.put, List.setIfInBounds_toArray, List.set_cons_zero, List.set_cons_succ], HB, fun h => R1 (by simpa [upb] using h), fun h => p18 (by simpa [upb] using h), fun h => p19 (by simpa [upb] using h), fun h => p21 (by simpa [upb] using h), fun h => p22 (by simpa [upb] using h), fun h => p23 (by simpa [upb] using h), fun h => p24 (by simpa [upb] using h), fun h => p25 (by simpa [upb] using h), fun _ => rfl, fun h => p27 (by simpa [upb] using h), fun h => p28 (by simpa [upb] using h), fun h => p29 (by simpa [upb] using h), fun _ => rfl, fun _ => rfl, fun h => p32 (by simpa [upb] using h), fun h => p33 (by simpa [upb] using h), fun h => p8 (by simpa [upb] using h)⟩
    case op14 =>
      rintro bb _ w' ⟨x18, x19, x20, x21, x22, x23, x24, x25, x26, x27, x28, x29, x30, x31, x32, x33, x8, rfl, HB, R1, p18, p19, p21, p22, p23, p24, p25, p26, p27, p28, p29, p30, p31, p32, p33, p8⟩ hb hd K hK
      simp only [Act.put, List.setIfInBounds_toArray, List.set_cons_zero, List.set_cons_succ]
      rw [if_pos (by rfl)]
      go_simp
      exact hK _ _ ⟨x18, x19, x20, x21, x22, x23, x24, x25, x26, x27, x28, x29, x30, x31, .string s, x33, x8, by simp only [Act.put, List.setIfInBounds_toArray, List.set_cons_zero, List.set_cons_succ], HB, fun h => R1 (by simpa [upb] using h), fun h => p18 (by simpa [upb] using h), fun h => p19 (by simpa [upb] using h), fun h => p21 (by simpa [upb] using h), fun h => p22 (by simpa [upb] using h), fun h => p23 (by simpa [upb] using h), fun h => p24 (by simpa [upb] using h), fun h => p25 (by simpa [upb] using h), fun h => p26 (by simpa [upb] using h), fun h => p27 (by simpa [upb] using h), fun h => p28 (by simpa [upb] using h), fun h => p29 (by simpa [upb] using h), fun h => p30 (by simpa [upb] using h), fun h => p31 (by simpa [upb] using h), fun _ => rfl, fun h => p33 (by simpa [upb] using h), fun h => p8 (by simpa [upb] using h)⟩
    case op15 =>
      rintro bb _ w' ⟨x18, x19, x20, x21, x22, x23, x24, x25, x26, x27, x28, x29, x30, x31, x32, x33, x8, rfl, HB, R1, p18, p19, p21, p22, p23, p24, p25, p26, p27, p28, p29, p30, p31, p32, p33, p8⟩ hb hd K hK
      simp only [Act.put, List.setIfInBounds_toArray, List.set_cons_zero, List.set_cons_succ]
      obtain rfl := (p31 (hd 13 (by decide))).symm
      obtain rfl := (p32 (hd 14 (by decide))).symm
      rw [if_pos (by rfl)]
      have z := Z3.out
      have z' : ¬ 9223372036854775807 < (kh ++ sv ++ su).size + s.size := by rw [ByteArray.size_append, ByteArray.size_append]; exact z
      go_simp
      exact hK _ _ ⟨x18, x19, x20, x21, x22, x23, x24, x25, x26, x27, x28, x29, x30, .string (kh ++ sv ++ su), .string s, .string (kh ++ sv ++ su ++ s), x8, by simp only [Act.put, List.setIfInBounds_toArray, List.set_cons_zero, List.set_cons_succ], HB, fun h => R1 (by simpa [upb] using h), fun h => p18 (by simpa [upb] using h), fun h => p19 (by simpa [upb] using h), fun h => p21 (by simpa [upb] using h), fun h => p22 (by simpa [upb] using h), fun h => p23 (by simpa [upb] using h), fun h => p24 (by simpa [upb] using h), fun h => p25 (by simpa [upb] using h), fun h => p26 (by simpa [upb] using h), fun h => p27 (by simpa [upb] using h), fun h => p28 (by simpa [upb] using h), fun h => p29 (by simpa [upb] using h), fun h => p30 (by simpa [upb] using h), fun _ => rfl, fun _ => rfl, fun _ => rfl, fun h => p8 (by simpa [upb] using h)⟩
    case op16 =>
      rintro bb _ w' ⟨x18, x19, x20, x21, x22, x23, x24, x25, x26, x27, x28, x29, x30, x31, x32, x33, x8, rfl, HB, R1, p18, p19, p21, p22, p23, p24, p25, p26, p27, p28, p29, p30, p31, p32, p33, p8⟩ hb hd K hK
      simp only [Act.put, List.setIfInBounds_toArray, List.set_cons_zero, List.set_cons_succ]
      obtain rfl := (p33 (hd 15 (by decide))).symm
      rw [if_pos (by rfl)]
      go_simp
      exact hK _ _ ⟨x18, x19, x20, x21, x22, x23, x24, x25, x26, x27, x28, x29, x30, x31, x32, .string (kh ++ sv ++ su ++ s), .string (kh ++ sv ++ su ++ s), by simp only [Act.put, List.setIfInBounds_toArray, List.set_cons_zero, List.set_cons_succ], HB, fun h => R1 (by simpa [upb] using h), fun h => p18 (by simpa [upb] using h), fun h => p19 (by simpa [upb] using h), fun h => p21 (by simpa [upb] using h), fun h => p22 (by simpa [upb] using h), fun h => p23 (by simpa [upb] using h), fun h => p24 (by simpa [upb] using h), fun h => p25 (by simpa [upb] using h), fun h => p26 (by simpa [upb] using h), fun h => p27 (by simpa [upb] using h), fun h => p28 (by simpa [upb] using h), fun h => p29 (by simpa [upb] using h), fun h => p30 (by simpa [upb] using h), fun h => p31 (by simpa [upb] using h), fun h => p32 (by simpa [upb] using h), fun _ => rfl, fun _ => rfl⟩
    case done =>
      rintro bb _ w' hb ⟨x18, x19, x20, x21, x22, x23, x24, x25, x26, x27, x28, x29, x30, x31, x32, x33, x8, rfl, HB, R1, p18, p19, p21, p22, p23, p24, p25, p26, p27, p28, p29, p30, p31, p32, p33, p8⟩
      obtain rfl := (p18 (hb 0 (by decide))).symm
      obtain rfl := (p19 (hb 1 (by decide))).symm
      obtain rfl := (p21 (hb 3 (by decide))).symm
      obtain rfl := (p22 (hb 4 (by decide))).symm
      obtain rfl := (p23 (hb 5 (by decide))).symm
      obtain rfl := (p24 (hb 6 (by decide))).symm
      obtain rfl := (p25 (hb 7 (by decide))).symm
      obtain rfl := (p26 (hb 8 (by decide))).symm
      obtain rfl := (p27 (hb 9 (by decide))).symm
      obtain rfl := (p28 (hb 10 (by decide))).symm
      obtain rfl := (p29 (hb 11 (by decide))).symm
      obtain rfl := (p30 (hb 12 (by decide))).symm
      obtain rfl := (p31 (hb 13 (by decide))).symm
      obtain rfl := (p32 (hb 14 (by decide))).symm
      obtain rfl := (p33 (hb 15 (by decide))).symm
      obtain rfl := (p8 (hb 16 (by decide))).symm
      simp only [Act.put, List.setIfInBounds_toArray, List.set_cons_zero, List.set_cons_succ]
      clear hb p18 p19 p21 p22 p23 p24 p25 p26 p27 p28 p29 p30 p31 p32 p33 p8
      clear R1
      obtain ⟨X, hXX⟩ : ∃ X, kh ++ sv ++ su ++ s = X := ⟨_, rfl⟩
      have HMX := Lib.hid (show X = strOfNums M by rw [← hXX, HM.out])
      have HZX := Lib.hid (show ¬ 9223372036854775807 < X.size + sf.size by rw [← hXX, ByteArray.size_append, ByteArray.size_append, ByteArray.size_append]; exact Z4.out)
      rw [hXX]
      clear hXX HM HE Z1 Z2 Z3 Z4
      have kb := print_bytes (P := Tryd.prog) 9 22 5 Tryd.underlying9 Tryd.underlying22 (by kernel_rfl) X w'
      go_wp2_with fail
      have HB2 := Lib.hid (bytes_below HB HB.size 5 X)
      have HRD := Lib.hid (show Rd (Lib.bytesWorld w' 5 X) (some ⟨w'.heap.size, 0, none⟩) X.size M by rw [HMX.out]; exact ck_conv_rd w' M HMB.out HML.out)
      refine (rsum_any _ _ _ M _ HRD.out).mono ?_; rintro e w5 ⟨rfl, hw5⟩
      clear kb HRD
      rw [hw5] at HB2
      clear hw5
      go_wp2_with fail
      refine (rematchref01_Fixed.calls (ck_crc M) sf _ HF.out).mono ?_; rintro e w6 ⟨rfl, b6⟩
      have z := HZX.out
      go_wp2_with fail
      go_ret
      exact ⟨by rw [HMX.out]; rfl, below_then HB1.out HB1.out.size (below_then HB2.out HB2.out.size b6)⟩
end Go.Proofs.YtigcgdhihaibbaaDoor.PLz
