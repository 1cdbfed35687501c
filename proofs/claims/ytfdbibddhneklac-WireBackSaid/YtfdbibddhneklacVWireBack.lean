import Derived.Test.YtfdbibddhneklacVWirePure
namespace Go.Proofs.Ytfdbibddhneklac.PWireBack
open Go.RowKit Go.Proofs.YtfdbibddhneklacW.PrintWords Go.Proofs.YtfdbibddhneklacW.PrintLast Go.Proofs.YtfdbibddhneklacW.PrintMore
set_option linter.unusedVariables false
set_option maxHeartbeats 4000000 in
set_option maxRecDepth 20000 in
theorem wire_Back_big (a b m : Int) (s : ByteArray) (A : Option Addr) (len cap : Nat) (w : World) (h : 2000 < s.size ∨ 2000 < len) :
    Calls Try.prog 5 #[.int .u64 a, .int .u64 b, .int .i64 m, .string s, .slice A len cap] w fun e w' => e = .returned (.bool true) ∧ Below w.heap.size w w' := by
  have hw := Lib.hid (fun W => rematchlaw01_wakes.calls0 W)
  by_cases hs : 2000 < s.size
  · have hs' : (2000 : Int) < s.size := by omega
    go_enter Try.func5, Try.ntmps5
    go_wp2_with fail
    refine (hw.out _).mono ?_; rintro e w1 ⟨rfl, b⟩
    go_wp2_with fail
    go_ret
    exact ⟨rfl, b⟩
  · have hs' : ¬ (2000 : Int) < s.size := by omega
    have hl : (2000 : Int) < len := by omega
    go_enter Try.func5, Try.ntmps5
    go_wp2_with fail
    refine (hw.out _).mono ?_; rintro e w1 ⟨rfl, b⟩
    go_wp2_with fail
    go_ret
    exact ⟨rfl, b⟩
set_option maxHeartbeats 4000000 in
set_option maxRecDepth 20000 in
theorem wire_Back_walk (a b m : Int) (s : ByteArray) (A : Option Addr) (cap : Nat) (z : List Int) (w : World) (ha : 0 ≤ a ∧ a < 18446744073709551616) (hb : 0 ≤ b ∧ b < 18446744073709551616) (hm : -9223372036854775808 ≤ m ∧ m < 9223372036854775808)
    (hs : s.size ≤ 2000) (hzl : z.length ≤ 2000) (hz : ∀ x ∈ z, 0 ≤ x ∧ x < 256) (hC : Kd.C (Kd.int .u8) w A z.length z) (hcap : z.length ≤ cap) :
    Calls Try.prog 5 #[.int .u64 a, .int .u64 b, .int .i64 m, .string s, .slice A z.length cap] w fun e w' => e = .returned (.bool true) ∧ Below w.heap.size w w' := by
  have hwk := Lib.hid (fun W => rematchlaw01_wakes.calls0 W)
  have L1 := (wire_vb_len 9 a).2
  have L2 := (wire_vb_len 9 (wire_zig m)).2
  have L3 := (wire_vb_len 9 (s.size : Int)).2
  have hbl := bytesOf_length s
  obtain ⟨F, hF⟩ : ∃ F : List Int, F = [(b % 4294967296) / 16777216, (b % 4294967296) / 65536 % 256, (b % 4294967296) / 256 % 256, (b % 4294967296) % 256] := ⟨_, rfl⟩
  obtain ⟨X1, hX1⟩ : ∃ X, X = wire_vb 9 a := ⟨_, rfl⟩
  obtain ⟨X2, hX2⟩ : ∃ X, X = X1 ++ wire_vb 9 (wire_zig m) := ⟨_, rfl⟩
  obtain ⟨X3, hX3⟩ : ∃ X, X = X2 ++ F := ⟨_, rfl⟩
  obtain ⟨X, hX⟩ : ∃ X, X = X3 ++ wire_vb 9 (s.size : Int) ++ bytesOf s := ⟨_, rfl⟩
  have hFl : F.length = 4 := by rw [hF]; rfl
  have l1 : X1.length ≤ 10 := by rw [hX1]; omega
  have l2 : X2.length ≤ 20 := by rw [hX2, List.length_append]; omega
  have l3 : X3.length ≤ 24 := by rw [hX3, List.length_append]; omega
  have hXl : X.length ≤ 3000 := by rw [hX, List.length_append, List.length_append]; omega
  have f1 : Hid (wire_Put.f [] a = some X1) := Lib.hid (by rw [hX1]; exact wire_Put_nil a [] (by simp) ha)
  have f2 : Hid (wire_PutSigned.f X1 m = some X2) := Lib.hid (by rw [hX2]; exact wire_PutSigned_at m X1 (by omega) hm)
  have f3 : Hid (wire_PutFixed.f X2 (b % 4294967296) = some X3) := Lib.hid (by
    rw [hX3, hF]
    unfold wire_PutFixed.f
    rw [if_pos ⟨by omega, by omega, by omega⟩])
  have f4 : Hid (wire_PutText.f X3 s = some X) := Lib.hid (by rw [hX]; exact wire_PutText_at s X3 (by omega) hs)
  have HX := Lib.hid (show X = wire_vb 9 a ++ (wire_vb 9 (wire_zig m) ++ (F ++ (wire_vb 9 (s.size : Int) ++ bytesOf s))) by rw [hX, hX3, hX2, hX1]; simp [List.append_assoc])
  clear hX hX3 hX2 hX1
  have hs' : ¬ (2000 : Int) < s.size := by omega
  have hz' : ¬ (2000 : Int) < z.length := by omega
  have HF := Lib.hid hF
  have HC := Lib.hid hC
  have HZ := Lib.hid hz
  have hwb : IntKind.u32.wrap b = b % 4294967296 := IntKind.wrap_u32 b
  clear hF hC hz
  go_enter Try.func5, Try.ntmps5
  go_wp2_with fail
  refine (wire_Put.calls none 0 [] a _ _ (Kd.C_nil _ _) (Nat.le_refl _) f1.out).mono ?_; rintro e w1 ⟨v1, rfl, R1, b1⟩
  obtain ⟨A1, c1, rfl, q1, C1⟩ := wire_form R1
  have H1 := b1
  clear R1 b1
  go_wp2_with fail
  refine (wire_PutSigned.calls A1 c1 X1 m _ _ C1 q1 f2.out).mono ?_; rintro e w2 ⟨v2, rfl, R2, b2⟩
  obtain ⟨A2, c2, rfl, q2, C2⟩ := wire_form R2
  have H2 := below_then H1 H1.size b2
  clear R2 b2 H1 C1
  go_wp2_with fail
  refine (wire_PutFixed.calls A2 c2 X2 (b % 4294967296) _ _ C2 q2 f3.out).mono ?_; rintro e w3 ⟨v3, rfl, R3, b3⟩
  obtain ⟨A3, c3, rfl, q3, C3⟩ := wire_form R3
  have H3 := below_then H2 H2.size b3
  clear R3 b3 H2 C2
  go_wp2_with fail
  refine (wire_PutText.calls A3 c3 X3 s _ _ C3 q3 f4.out).mono ?_; rintro e w4 ⟨v4, rfl, R4, b4⟩
  obtain ⟨A4, c4, rfl, q4, C4⟩ := wire_form R4
  have H4 := below_then H3 H3.size b4
  clear R4 b4 H3 C3
  have C4 := Lib.hid C4
  have D4 := Lib.hid (Kd.C_below HC.out H4)
  go_wp2_with (first
    | (at_builtin; refine Kd.R_append_row (Value.int .u8) (0 : Int) (w0 := w4) w4.heap.size rfl (.const (.slice none 0 0)) (.tmp 37) 43 5 (.int .u8 0) 1 rfl Try.underlying43 info5 rfl (by decide) _ [] X A4 X.length c4 (fun _ => True) rfl rfl (fun _ _ => trivial) (Kd.R_nil _ _ _ _ _) C4.out (Below.refl _ _) (Nat.le_refl _) (by simp; omega) ?_; intro v5 w5 R5 b5 _ _; have R5' := Lib.hid (show Kd.R (Kd.int .u8) 5 w5 w4.heap.size (fun _ => True) v5 X from R5); have D5 := Lib.hid (Kd.C_below D4.out b5); have B5 := Lib.hid b5; clear R5 b5 D4 C4)
    | (at_builtin; refine Kd.R_append_row (Value.int .u8) (0 : Int) (w0 := w4) w4.heap.size rfl (.tmp 38) (.tmp 39) 43 5 (.int .u8 0) 1 rfl Try.underlying43 info5 rfl (by decide) _ X z A z.length cap (fun _ => True) rfl rfl (fun _ _ => trivial) R5'.out D5.out B5.out B5.out.size (by omega) ?_; intro v6 w6 R6 b6 _ _; clear R5' D5 B5))
  obtain ⟨A6, c6, rfl, q6, C6⟩ := wire_form R6
  have H6 := below_then H4 H4.size b6
  have Y0 := Lib.hid (Kd.C_below HC.out H6)
  have C6 := Lib.hid C6
  clear R6 b6 H4 HC
  obtain ⟨Y, hY⟩ : ∃ Y, Y = X ++ z := ⟨_, rfl⟩
  rw [← hY] at C6 q6 ⊢
  obtain ⟨k1, k2, k3, k4, n1, n2, n3, n4, hk4, hk0, hYl⟩ := wire_reads a m (b % 4294967296) s z ha ⟨by omega, by omega⟩ hm hs hzl HZ.out Y (by rw [hY, HX.out, HF.out]; simp only [List.append_assoc])
  have n1 := Lib.hid n1
  have n2 := Lib.hid n2
  have n3 := Lib.hid n3
  have n4 := Lib.hid n4
  have hk : (Y.length : Int) - k4 = z.length := by omega
  clear hY
  refine (wire_Of.calls A6 c6 Y _ _ _ w6 w6 (Below.refl _ _) C6.out q6 rfl).mono ?_; rintro e w7 ⟨g1, rfl, I7, B7, _⟩
  have I7 := Lib.hid I7
  go_wp2_with fail
  refine (wire_Reader_Num.calls g1 _ _ _ _ _ _ w6 _ I7.out B7 n1.out).mono ?_; rintro e w8 ⟨rfl, I8, B8, _⟩
  have I8 := Lib.hid I8
  clear I7 B7
  go_wp2_with fail
  refine (wire_Reader_Signed.calls g1 _ _ _ _ _ _ w6 _ I8.out B8 n2.out).mono ?_; rintro e w9 ⟨rfl, I9, B9, _⟩
  have I9 := Lib.hid I9
  clear I8 B8
  go_wp2_with fail
  refine (wire_Reader_Fixed.calls 5 g1 _ _ _ _ _ _ w6 _ I9.out B9 n3.out).mono ?_; rintro e w10 ⟨rfl, I10, B10, _⟩
  have I10 := Lib.hid I10
  clear I9 B9
  go_wp2_with fail
  refine (wire_Reader_Text.calls g1 _ _ _ (s.size : Int) _ _ _ w6 _ I10.out B10 n4.out).mono ?_; rintro e w11 ⟨rfl, I11, B11, _⟩
  have I11 := Lib.hid I11
  clear I10 B10
  have hE := Lib.hid (wire_Err_ro g1 _ _ _ w6 w11 I11.out)
  have hL := wire_Left_ro g1 _ _ _ w6 w11 I11.out ⟨hk0, by omega⟩ (by omega)
  rw [hk] at hL
  have hL := Lib.hid hL
  clear I11
  have H11 := below_then H6 H6.size B11
  have Y0 := Lib.hid (Kd.C_below Y0.out B11)
  clear B11 H6
  go_wp2_with fail
  refine hE.out.mono ?_; rintro e w12 ⟨rfl, rfl⟩
  go_wp2_with fail
  refine hL.out.mono ?_; rintro e w12b ⟨rfl, nd, rfl⟩
  clear hE hL n1 n2 n3 n4 f1 f2 f3 f4 C6
  have H12 := pw_below_drewN H11 nd
  have Y0 : Hid (Kd.C (Kd.int .u8) (w12.drewN nd) A z.length z) := Y0
  clear H11
  obtain ⟨U, hU⟩ : ∃ U, U = wire_vb 9 a := ⟨_, rfl⟩
  obtain ⟨V, hV⟩ : ∃ V, V = wire_vb 9 b := ⟨_, rfl⟩
  have g1' : Hid (wire_Put.f [] a = some U) := Lib.hid (by rw [hU]; exact wire_Put_nil a [] (by simp) ha)
  have g2' : Hid (wire_Put.f [] b = some V) := Lib.hid (by rw [hV]; exact wire_Put_nil b [] (by simp) hb)
  have lU : 1 ≤ U.length ∧ U.length ≤ 10 := by rw [hU]; exact wire_vb_len 9 a
  have lV : 1 ≤ V.length ∧ V.length ≤ 10 := by rw [hV]; exact wire_vb_len 9 b
  have HU := Lib.hid hU
  have HV := Lib.hid hV
  clear hU hV
  go_wp2_with fail
  refine (wire_Put.calls none 0 [] a _ _ (Kd.C_nil _ _) (Nat.le_refl _) g1'.out).mono ?_; rintro e w13 ⟨v13, rfl, R13, b13⟩
  obtain ⟨AU, cU, rfl, qU, CU⟩ := wire_form R13
  have H13 := below_then H12 H12.size b13
  have Y0 := Lib.hid (Kd.C_below Y0.out b13)
  clear R13 b13 H12
  go_wp2_with fail
  refine (wire_Put.calls none 0 [] b _ _ (Kd.C_nil _ _) (Nat.le_refl _) g2'.out).mono ?_; rintro e w14 ⟨v14, rfl, R14, b14⟩
  obtain ⟨AV, cV, rfl, qV, CV⟩ := wire_form R14
  have H14 := below_then H13 H13.size b14
  have Y0 := Lib.hid (Kd.C_below Y0.out b14)
  have CU := Lib.hid (Kd.C_below CU b14)
  have CV := Lib.hid CV
  clear R14 b14 H13
  by_cases hUV : V.length < U.length
  · have tU := Kd.C_take (m := V.length) CU.out (by omega)
    have eU : (U.take V.length).length = V.length := by rw [List.length_take]; omega
    rw [eU] at tU
    have s1 : ∀ q, (convert 43 9 (.slice AU V.length cU)).run Try.prog (w14.drewN q) = .ok (.string (strOfNums (U.take V.length))) (w14.drewN q) := fun q => Kd.C_string (P := Try.prog) (src := 43) (dst := 9) (c := cU) (w := w14.drewN q) Try.underlying43 (by kernel_rfl) Try.underlying9 tU
    have s2 : ∀ q, (convert 43 9 (.slice AV V.length cV)).run Try.prog (w14.drewN q) = .ok (.string (strOfNums V)) (w14.drewN q) := fun q => Kd.C_string (P := Try.prog) (src := 43) (dst := 9) (c := cV) (w := w14.drewN q) Try.underlying43 (by kernel_rfl) Try.underlying9 CV.out
    have hV1 : ¬ (V.length : Int) < 1 := by omega
    have hd : decide ((V.length : Int) < 1) = false := by simp; omega
    clear tU
    have hab : a ≠ b := by
      intro e
      have := HU.out; have h2 := HV.out
      rw [e] at this
      rw [this, h2] at hUV
      exact Nat.lt_irrefl _ hUV
    have hne : ((strOfNums (U.take V.length)).toList == (strOfNums V).toList) = false := by rw [HU.out, HV.out]; exact wire_unlike_str a b ha hb hab
    have hab2 : (a == b) = false := by simpa using hab
    go_wp2_with fail
    go_quiet (fail)
    go_wp2_with fail
    clear s1 s2 hne hab2 hd CU CV
    have H15 := pw_below_drewN H14 nq
    have Y15 : Hid (Kd.C (Kd.int .u8) (w14.drewN nq) A z.length z) := Y0
    refine (wire_Of.calls A cap z _ _ _ (w14.drewN nq) _ (Below.refl _ _) Y15.out hcap rfl).mono ?_; rintro e w16 ⟨g2, rfl, J16, E16, _⟩
    have J16 := Lib.hid J16
    obtain ⟨v, c, e, nn, hvc⟩ := wire_first z HZ.out hzl
    have nn := Lib.hid nn
    go_wp2_with fail
    refine (wire_Reader_Num.calls g2 _ _ _ _ _ _ (w14.drewN nq) _ J16.out E16 nn.out).mono ?_; rintro e' w17 ⟨rfl, J17, E17, _⟩
    have er := Lib.hid (wire_Err_ro g2 _ _ _ (w14.drewN nq) w17 J17)
    have at_ := Lib.hid (wire_At_ro g2 _ _ _ (w14.drewN nq) w17 J17)
    have H17 := below_then H15 H15.size E17
    have Y17 := Lib.hid (Kd.C_below Y15.out E17)
    have J17 := Lib.hid J17
    clear J16 E16 nn E17 Y15 H15 H14 Y0
    rcases hvc with ⟨he, rfl, rfl⟩ | ⟨rfl, hv0, hv1, hc, hvl, htk⟩
    · go_wp2_with fail
      refine er.out.mono ?_; rintro e1 w18 ⟨rfl, rfl⟩
      go_wp2_with fail
      refine at_.out.mono ?_; rintro e1 w19 ⟨rfl, rfl⟩
      go_wp2_with fail
      refine (hwk.out _).mono ?_; rintro e1 w20 ⟨rfl, b20⟩
      have H20 := below_then H17 H17.size b20
      go_wp2_with fail
      go_ret
      exact ⟨rfl, H20⟩
    · obtain ⟨T, hT⟩ : ∃ T, T = wire_vb 9 v := ⟨_, rfl⟩
      have pf : Hid (wire_Put.f [] v = some T) := Lib.hid (by rw [hT]; exact wire_Put_nil v [] (by simp) ⟨hv0, hv1⟩)
      rw [← hT] at hc hvl htk
      clear hT
      go_wp2_with fail
      refine er.out.mono ?_; rintro e1 w18 ⟨rfl, rfl⟩
      go_wp2_with fail
      refine (wire_Put.calls none 0 [] v _ _ (Kd.C_nil _ _) (Nat.le_refl _) pf.out).mono ?_; rintro e w19 ⟨v19, rfl, R19, b19⟩
      obtain ⟨AT, cT, rfl, qT, CT⟩ := wire_form R19
      have H19 := below_then H17 H17.size b19
      have Y19 := Lib.hid (Kd.C_below Y17.out b19)
      have J19 := Lib.hid (J17.out.below b19)
      have eT : (z.take T.length).length = T.length := by rw [List.length_take]; omega
      have YT := Kd.C_take (m := T.length) Y19.out hvl
      rw [eT, htk] at YT
      have hS : ∀ w', Below w19.heap.size w19 w' → (convert 43 9 (.slice AT T.length cT)).run Try.prog w' = .ok (.string (strOfNums T)) w' ∧ (convert 43 9 (.slice A T.length cap)).run Try.prog w' = .ok (.string (strOfNums T)) w' ∧ Below w19.heap.size w19 w' := fun w' hb =>
        ⟨Kd.C_string (P := Try.prog) (src := 43) (dst := 9) (c := cT) Try.underlying43 (by kernel_rfl) Try.underlying9 (Kd.C_below CT hb), Kd.C_string (P := Try.prog) (src := 43) (dst := 9) (c := cap) Try.underlying43 (by kernel_rfl) Try.underlying9 (Kd.C_below YT hb), hb⟩
      have atg : ∀ W, Below w19.heap.size w19 W → Calls Try.prog 41 #[.pointer (some ⟨g2, 0, none⟩)] W fun e w' => e = .returned (.int .i64 c) ∧ w' = W := fun W hb => wire_At_ro g2 _ _ _ (w14.drewN nq) W (J19.out.below hb)
      have hb0 : Below w19.heap.size w19 w19.drew := below_drew1 (Below.refl _ _)
      have hd2 : decide ((T.length : Int) ≤ z.length) = true := by simp; omega
      have hd3 : ((T.length : Int) ≤ z.length) = True := by simp; omega
      have hd4 : (0 : Int) ≤ ↑T.length := by omega
      have hd5 : (↑T.length : Int) ≤ ↑cap := by omega
      have HS := Lib.hid hS
      have atg := Lib.hid (atg w19.drew hb0)
      subst hc
      clear hS CT YT J19 Y19 J17 Y17 H17 er at_
      go_wp2_with fail
      go_region_held3 (fun w' => (convert 43 9 (.slice AT T.length cT)).run Try.prog w' = .ok (.string (strOfNums T)) w' ∧ (convert 43 9 (.slice A T.length cap)).run Try.prog w' = .ok (.string (strOfNums T)) w' ∧ Below w19.heap.size w19 w') (first | exact HS.out _ hb0 | exact HS.out _ (by assumption)) (first | (refine atg.out.mono ?_; rintro e1 ww ⟨rfl, rfl⟩) | (refine (hwk.out _).mono ?_; rintro e1 ww ⟨rfl, bb⟩; have bb2 := below_then hb0 (Nat.le_refl _) bb))
      all_goals go_wp2_with fail
      go_ret
      exact ⟨rfl, below_then H19 H19.size bb2⟩
  · have tV := Kd.C_take (m := U.length) CV.out (by omega)
    have eV : (V.take U.length).length = U.length := by rw [List.length_take]; omega
    rw [eV] at tV
    have s1 : ∀ q, (convert 43 9 (.slice AU U.length cU)).run Try.prog (w14.drewN q) = .ok (.string (strOfNums U)) (w14.drewN q) := fun q => Kd.C_string (P := Try.prog) (src := 43) (dst := 9) (c := cU) (w := w14.drewN q) Try.underlying43 (by kernel_rfl) Try.underlying9 CU.out
    have s2 : ∀ q, (convert 43 9 (.slice AV U.length cV)).run Try.prog (w14.drewN q) = .ok (.string (strOfNums (V.take U.length))) (w14.drewN q) := fun q => Kd.C_string (P := Try.prog) (src := 43) (dst := 9) (c := cV) (w := w14.drewN q) Try.underlying43 (by kernel_rfl) Try.underlying9 tV
    have hV1 : ¬ (U.length : Int) < 1 := by omega
    have hd : decide ((U.length : Int) < 1) = false := by simp; omega
    clear tV
    have hpair : (((strOfNums U).toList == (strOfNums (V.take U.length)).toList) = true ∧ (a == b) = true) ∨ (((strOfNums U).toList == (strOfNums (V.take U.length)).toList) = false ∧ (a == b) = false) := by
      by_cases hab : a = b
      · left
        have e : V = U := by rw [HV.out, HU.out, hab]
        rw [e, List.take_length, hab]
        exact ⟨by simp, by simp⟩
      · right
        refine ⟨?_, by simpa using hab⟩
        rw [HU.out, HV.out]
        exact wire_cmp _ _ (wire_vb_bytes 9 a ha.1) (fun x hx => wire_vb_bytes 9 b hb.1 x (List.mem_of_mem_take hx)) (fun e => hab (wire_vb_unlike a b ha hb e))
    go_wp2_with fail
    rcases hpair with ⟨hne, hab2⟩ | ⟨hne, hab2⟩
    · go_quiet (fail)
      go_wp2_with fail
      clear s1 s2 hne hab2 hd CU CV
      have H15 := pw_below_drewN H14 nq
      have Y15 : Hid (Kd.C (Kd.int .u8) (w14.drewN nq) A z.length z) := Y0
      refine (wire_Of.calls A cap z _ _ _ (w14.drewN nq) _ (Below.refl _ _) Y15.out hcap rfl).mono ?_; rintro e w16 ⟨g2, rfl, J16, E16, _⟩
      have J16 := Lib.hid J16
      obtain ⟨v, c, e, nn, hvc⟩ := wire_first z HZ.out hzl
      have nn := Lib.hid nn
      go_wp2_with fail
      refine (wire_Reader_Num.calls g2 _ _ _ _ _ _ (w14.drewN nq) _ J16.out E16 nn.out).mono ?_; rintro e' w17 ⟨rfl, J17, E17, _⟩
      have er := Lib.hid (wire_Err_ro g2 _ _ _ (w14.drewN nq) w17 J17)
      have at_ := Lib.hid (wire_At_ro g2 _ _ _ (w14.drewN nq) w17 J17)
      have H17 := below_then H15 H15.size E17
      have Y17 := Lib.hid (Kd.C_below Y15.out E17)
      have J17 := Lib.hid J17
      clear J16 E16 nn E17 Y15 H15 H14 Y0
      rcases hvc with ⟨he, rfl, rfl⟩ | ⟨rfl, hv0, hv1, hc, hvl, htk⟩
      · go_wp2_with fail
        refine er.out.mono ?_; rintro e1 w18 ⟨rfl, rfl⟩
        go_wp2_with fail
        refine at_.out.mono ?_; rintro e1 w19 ⟨rfl, rfl⟩
        go_wp2_with fail
        refine (hwk.out _).mono ?_; rintro e1 w20 ⟨rfl, b20⟩
        have H20 := below_then H17 H17.size b20
        go_wp2_with fail
        go_ret
        exact ⟨rfl, H20⟩
      · obtain ⟨T, hT⟩ : ∃ T, T = wire_vb 9 v := ⟨_, rfl⟩
        have pf : Hid (wire_Put.f [] v = some T) := Lib.hid (by rw [hT]; exact wire_Put_nil v [] (by simp) ⟨hv0, hv1⟩)
        rw [← hT] at hc hvl htk
        clear hT
        go_wp2_with fail
        refine er.out.mono ?_; rintro e1 w18 ⟨rfl, rfl⟩
        go_wp2_with fail
        refine (wire_Put.calls none 0 [] v _ _ (Kd.C_nil _ _) (Nat.le_refl _) pf.out).mono ?_; rintro e w19 ⟨v19, rfl, R19, b19⟩
        obtain ⟨AT, cT, rfl, qT, CT⟩ := wire_form R19
        have H19 := below_then H17 H17.size b19
        have Y19 := Lib.hid (Kd.C_below Y17.out b19)
        have J19 := Lib.hid (J17.out.below b19)
        have eT : (z.take T.length).length = T.length := by rw [List.length_take]; omega
        have YT := Kd.C_take (m := T.length) Y19.out hvl
        rw [eT, htk] at YT
        have hS : ∀ w', Below w19.heap.size w19 w' → (convert 43 9 (.slice AT T.length cT)).run Try.prog w' = .ok (.string (strOfNums T)) w' ∧ (convert 43 9 (.slice A T.length cap)).run Try.prog w' = .ok (.string (strOfNums T)) w' ∧ Below w19.heap.size w19 w' := fun w' hb =>
          ⟨Kd.C_string (P := Try.prog) (src := 43) (dst := 9) (c := cT) Try.underlying43 (by kernel_rfl) Try.underlying9 (Kd.C_below CT hb), Kd.C_string (P := Try.prog) (src := 43) (dst := 9) (c := cap) Try.underlying43 (by kernel_rfl) Try.underlying9 (Kd.C_below YT hb), hb⟩
        have atg : ∀ W, Below w19.heap.size w19 W → Calls Try.prog 41 #[.pointer (some ⟨g2, 0, none⟩)] W fun e w' => e = .returned (.int .i64 c) ∧ w' = W := fun W hb => wire_At_ro g2 _ _ _ (w14.drewN nq) W (J19.out.below hb)
        have hb0 : Below w19.heap.size w19 w19.drew := below_drew1 (Below.refl _ _)
        have hd2 : decide ((T.length : Int) ≤ z.length) = true := by simp; omega
        have hd3 : ((T.length : Int) ≤ z.length) = True := by simp; omega
        have hd4 : (0 : Int) ≤ ↑T.length := by omega
        have hd5 : (↑T.length : Int) ≤ ↑cap := by omega
        have HS := Lib.hid hS
        have atg := Lib.hid (atg w19.drew hb0)
        subst hc
        clear hS CT YT J19 Y19 J17 Y17 H17 er at_
        go_wp2_with fail
        go_region_held3 (fun w' => (convert 43 9 (.slice AT T.length cT)).run Try.prog w' = .ok (.string (strOfNums T)) w' ∧ (convert 43 9 (.slice A T.length cap)).run Try.prog w' = .ok (.string (strOfNums T)) w' ∧ Below w19.heap.size w19 w') (first | exact HS.out _ hb0 | exact HS.out _ (by assumption)) (first | (refine atg.out.mono ?_; rintro e1 ww ⟨rfl, rfl⟩) | (refine (hwk.out _).mono ?_; rintro e1 ww ⟨rfl, bb⟩; have bb2 := below_then hb0 (Nat.le_refl _) bb))
        all_goals go_wp2_with fail
        go_ret
        exact ⟨rfl, below_then H19 H19.size bb2⟩
    · go_quiet (fail)
      go_wp2_with fail
      clear s1 s2 hne hab2 hd CU CV
      have H15 := pw_below_drewN H14 nq
      have Y15 : Hid (Kd.C (Kd.int .u8) (w14.drewN nq) A z.length z) := Y0
      refine (wire_Of.calls A cap z _ _ _ (w14.drewN nq) _ (Below.refl _ _) Y15.out hcap rfl).mono ?_; rintro e w16 ⟨g2, rfl, J16, E16, _⟩
      have J16 := Lib.hid J16
      obtain ⟨v, c, e, nn, hvc⟩ := wire_first z HZ.out hzl
      have nn := Lib.hid nn
      go_wp2_with fail
      refine (wire_Reader_Num.calls g2 _ _ _ _ _ _ (w14.drewN nq) _ J16.out E16 nn.out).mono ?_; rintro e' w17 ⟨rfl, J17, E17, _⟩
      have er := Lib.hid (wire_Err_ro g2 _ _ _ (w14.drewN nq) w17 J17)
      have at_ := Lib.hid (wire_At_ro g2 _ _ _ (w14.drewN nq) w17 J17)
      have H17 := below_then H15 H15.size E17
      have Y17 := Lib.hid (Kd.C_below Y15.out E17)
      have J17 := Lib.hid J17
      clear J16 E16 nn E17 Y15 H15 H14 Y0
      rcases hvc with ⟨he, rfl, rfl⟩ | ⟨rfl, hv0, hv1, hc, hvl, htk⟩
      · go_wp2_with fail
        refine er.out.mono ?_; rintro e1 w18 ⟨rfl, rfl⟩
        go_wp2_with fail
        refine at_.out.mono ?_; rintro e1 w19 ⟨rfl, rfl⟩
        go_wp2_with fail
        refine (hwk.out _).mono ?_; rintro e1 w20 ⟨rfl, b20⟩
        have H20 := below_then H17 H17.size b20
        go_wp2_with fail
        go_ret
        exact ⟨rfl, H20⟩
      · obtain ⟨T, hT⟩ : ∃ T, T = wire_vb 9 v := ⟨_, rfl⟩
        have pf : Hid (wire_Put.f [] v = some T) := Lib.hid (by rw [hT]; exact wire_Put_nil v [] (by simp) ⟨hv0, hv1⟩)
        rw [← hT] at hc hvl htk
        clear hT
        go_wp2_with fail
        refine er.out.mono ?_; rintro e1 w18 ⟨rfl, rfl⟩
        go_wp2_with fail
        refine (wire_Put.calls none 0 [] v _ _ (Kd.C_nil _ _) (Nat.le_refl _) pf.out).mono ?_; rintro e w19 ⟨v19, rfl, R19, b19⟩
        obtain ⟨AT, cT, rfl, qT, CT⟩ := wire_form R19
        have H19 := below_then H17 H17.size b19
        have Y19 := Lib.hid (Kd.C_below Y17.out b19)
        have J19 := Lib.hid (J17.out.below b19)
        have eT : (z.take T.length).length = T.length := by rw [List.length_take]; omega
        have YT := Kd.C_take (m := T.length) Y19.out hvl
        rw [eT, htk] at YT
        have hS : ∀ w', Below w19.heap.size w19 w' → (convert 43 9 (.slice AT T.length cT)).run Try.prog w' = .ok (.string (strOfNums T)) w' ∧ (convert 43 9 (.slice A T.length cap)).run Try.prog w' = .ok (.string (strOfNums T)) w' ∧ Below w19.heap.size w19 w' := fun w' hb =>
          ⟨Kd.C_string (P := Try.prog) (src := 43) (dst := 9) (c := cT) Try.underlying43 (by kernel_rfl) Try.underlying9 (Kd.C_below CT hb), Kd.C_string (P := Try.prog) (src := 43) (dst := 9) (c := cap) Try.underlying43 (by kernel_rfl) Try.underlying9 (Kd.C_below YT hb), hb⟩
        have atg : ∀ W, Below w19.heap.size w19 W → Calls Try.prog 41 #[.pointer (some ⟨g2, 0, none⟩)] W fun e w' => e = .returned (.int .i64 c) ∧ w' = W := fun W hb => wire_At_ro g2 _ _ _ (w14.drewN nq) W (J19.out.below hb)
        have hb0 : Below w19.heap.size w19 w19.drew := below_drew1 (Below.refl _ _)
        have hd2 : decide ((T.length : Int) ≤ z.length) = true := by simp; omega
        have hd3 : ((T.length : Int) ≤ z.length) = True := by simp; omega
        have hd4 : (0 : Int) ≤ ↑T.length := by omega
        have hd5 : (↑T.length : Int) ≤ ↑cap := by omega
        have HS := Lib.hid hS
        have atg := Lib.hid (atg w19.drew hb0)
        subst hc
        clear hS CT YT J19 Y19 J17 Y17 H17 er at_
        go_wp2_with fail
        go_region_held3 (fun w' => (convert 43 9 (.slice AT T.length cT)).run Try.prog w' = .ok (.string (strOfNums T)) w' ∧ (convert 43 9 (.slice A T.length cap)).run Try.prog w' = .ok (.string (strOfNums T)) w' ∧ Below w19.heap.size w19 w') (first | exact HS.out _ hb0 | exact HS.out _ (by assumption)) (first | (refine atg.out.mono ?_; rintro e1 ww ⟨rfl, rfl⟩) | (refine (hwk.out _).mono ?_; rintro e1 ww ⟨rfl, bb⟩; have bb2 := below_then hb0 (Nat.le_refl _) bb))
        all_goals go_wp2_with fail
        go_ret
        exact ⟨rfl, below_then H19 H19.size bb2⟩
end Go.Proofs.Ytfdbibddhneklac.PWireBack
