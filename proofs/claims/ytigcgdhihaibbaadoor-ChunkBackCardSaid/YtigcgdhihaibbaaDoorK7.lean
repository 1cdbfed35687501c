/- Chunk: the law ChunkBack: its walk. -/
import Derived.Test.YtigcgdhihaibbaaDoorK6
namespace Go.Proofs.YtigcgdhihaibbaaDoor.PLz
open Go.RowKit Go.Proofs.YtigcgdhihaibbaaDoorW.PrintWords Go.Proofs.YtigcgdhihaibbaaDoorW.PrintLast Go.Proofs.YtigcgdhihaibbaaDoorW.PrintMore
attribute [local go_sem] max2_int min2_int max_two min_two max_three min_three max_four min_four   -- for this text's walks alone
set_option linter.unusedVariables false
set_option linter.unusedSimpArgs false
set_option maxHeartbeats 4000000
set_option maxRecDepth 20000

theorem ck_back_big (A0 : Option Addr) (n0 c0 : Nat) (A1 : Option Addr) (n1 c1 : Nat) (A2 : Option Addr) (n2 c2 : Nat) (kind at_ ch : Int) (w : World) (hT : Tab w) (h : 2000 < n0 ∨ 2000 < n1 ∨ 2000 < n2) :
    Calls Tryd.prog 5 #[.slice A0 n0 c0, .slice A1 n1 c1, .slice A2 n2 c2, .int .u8 kind, .int .u16 at_, .int .u8 ch] w fun e w' => e = .returned (.bool true) ∧ Below w.heap.size w w' := by
  have hw := Lib.hid (ck_wakes_calls w hT)
  clear hT
  by_cases hb : 2000 < n0
  · have hl' : (2000 : Int) < n0 := by omega
    go_enter Tryd.func5, Tryd.ntmps5
    go_wp2_with fail
    refine hw.out.mono ?_; rintro e w1 ⟨rfl, b⟩
    go_wp2_with fail
    go_ret
    exact ⟨rfl, b⟩
  · have hl' : ¬ (2000 : Int) < n0 := by omega
    by_cases hb2 : 2000 < n1
    · have hl2 : (2000 : Int) < n1 := by omega
      go_enter Tryd.func5, Tryd.ntmps5
      go_wp2_with fail
      refine hw.out.mono ?_; rintro e w1 ⟨rfl, b⟩
      go_wp2_with fail
      go_ret
      exact ⟨rfl, b⟩
    · have hl2 : ¬ (2000 : Int) < n1 := by omega
      have hl3 : (2000 : Int) < n2 := by omega
      go_enter Tryd.func5, Tryd.ntmps5
      go_wp2_with fail
      refine hw.out.mono ?_; rintro e w1 ⟨rfl, b⟩
      go_wp2_with fail
      go_ret
      exact ⟨rfl, b⟩
/-- what the plain law tells of the chunk -/
structure ck_Law (a d bh B0 B : List Int) (kind at_ ch : Int) : Prop where
  put : a ++ ck_put kind d = B0
  all : B0 ++ bh = B
  len1 : B0.length ≤ a.length + d.length + 16
  len2 : a.length < B0.length
  take : ck_take B (a.length : Int) (d.length : Int) = some (kind, d, (B0.length : Int), 0)
  skip : ∃ how sz body, ck_read B (a.length : Int) = some (kind, how, sz, body, (B0.length : Int), 0)
  most : ck_take B (a.length : Int) ((d.length : Int) - 1) = some (0, [], 0, 6)
  turn : ch ≠ 0 → ∀ I : Nat, (I : Int) = (a.length : Int) + at_ % ((B0.length : Int) - a.length) → ∃ k2 h2 s2 b2 n2 f2, ck_read (B.set I (bits .xor .u8 (B.getD I 0) ch)) (a.length : Int) = some (k2, h2, s2, b2, n2, f2) ∧ (f2 ≠ 0 ∨ n2 ≠ (B0.length : Int))
theorem ck_back_walk (A0 : Option Addr) (c0 : Nat) (a : List Int) (A1 : Option Addr) (c1 : Nat) (d : List Int) (A2 : Option Addr) (c2 : Nat) (bh : List Int) (kind at_ ch : Int) (B0 B : List Int) (w : World)
    (hr0 : Kd.C (Kd.int .u8) w A0 a.length a) (hc0 : a.length ≤ c0) (hr1 : Kd.C (Kd.int .u8) w A1 d.length d) (hc1 : d.length ≤ c1) (hr2 : Kd.C (Kd.int .u8) w A2 bh.length bh) (hc2 : bh.length ≤ c2)
    (ha : a.length ≤ 2000) (hd : d.length ≤ 2000) (hbh : bh.length ≤ 2000) (haB : IsB a) (hdB : IsB d) (hbB : IsB bh) (hBB : IsB B) (hk : 0 ≤ kind ∧ kind < 256) (hat : 0 ≤ at_ ∧ at_ < 65536) (hch : 0 ≤ ch ∧ ch < 256) (hT : Tab w)
    (hL : ck_Law a d bh B0 B kind at_ ch) :
    Calls Tryd.prog 5 #[.slice A0 a.length c0, .slice A1 d.length c1, .slice A2 bh.length c2, .int .u8 kind, .int .u16 at_, .int .u8 ch] w fun e w' => e = .returned (.bool true) ∧ Below w.heap.size w w' := by
  have hl1 : ¬ (2000 : Int) < a.length := by omega
  have hl2 : ¬ (2000 : Int) < d.length := by omega
  have hl3 : ¬ (2000 : Int) < bh.length := by omega
  have HL := Lib.hid hL
  have HR0 := Lib.hid hr0
  have HR1 := Lib.hid hr1
  have HR2 := Lib.hid hr2
  have HT := Lib.hid hT
  have HAB := Lib.hid haB
  have HDB := Lib.hid hdB
  have HBB := Lib.hid hBB
  have q1 := hL.len1
  have q2 := hL.len2
  have e1 : IntKind.i64.wrap ((a.length : Int) + d.length) = (a.length : Int) + d.length := IntWalk.i64_in _ (by omega)
  have e2 : IntKind.i64.wrap ((a.length : Int) + d.length + 16) = (a.length : Int) + d.length + 16 := IntWalk.i64_in _ (by omega)
  have e3 : ¬ ((a.length : Int) + d.length + 16 < B0.length) := by omega
  have e4 : ¬ ((B0.length : Int) ≤ a.length) := by omega
  have e5 : IntKind.i64.wrap ((d.length : Int) - 1) = (d.length : Int) - 1 := IntWalk.i64_in _ (by omega)
  have HBL := Lib.hid (show B.length = B0.length + bh.length by rw [← hL.all, List.length_append])
  obtain ⟨sd, hsd⟩ : ∃ o, o = strOfNums d := ⟨_, rfl⟩
  have Hsd := Lib.hid hsd
  have HQ := Lib.hid (And.intro q1 q2)
  clear hL hr0 hr1 hr2 hT haB hdB hbB hBB hsd q1 q2
  go_enter Tryd.func5, Tryd.ntmps5
  go_wp2_with fail
  refine (ck_Put_calls A0 c0 a kind A1 c1 d w HR0.out hc0 HR1.out hc1 HAB.out (by omega) hk HDB.out (by omega) HT.out B0 HL.out.put).mono ?_; rintro e w1 ⟨AP, cP, rfl, qP, RP, b1⟩
  have HB1 := Lib.hid b1
  have HRP := Lib.hid RP
  have HCP := Lib.hid (wire_R_C RP)
  have HR1 := Lib.hid (Kd.C_below HR1.out b1)
  have HR2 := Lib.hid (Kd.C_below HR2.out b1)
  clear RP b1
  go_wp2_with (first
    | (at_builtin; refine Kd.R_append_row (Value.int .u8) (0 : Int) (w0 := w1) w1.heap.size rfl (.const (.slice none 0 0)) (.tmp 61) 22 5 (.int .u8 0) 1 rfl Tryd.underlying22 info5 rfl (by decide) _ [] B0 AP B0.length cP (fun _ => True) rfl rfl (fun _ _ => trivial) (Kd.R_nil _ _ _ _ _) HCP.out (Below.refl _ _) (Nat.le_refl _) (by have := HQ.out; simp; omega) ?_; intro v2 w2 R2 b2 _ _; rw [List.nil_append] at R2; obtain ⟨AB, cB, rfl, qB, CB⟩ := wire_form R2; have HR22 := Lib.hid R2; have HB2 := Lib.hid b2; have HC2 := Lib.hid (Kd.C_below HR2.out b2); clear R2 CB b2)
    | (at_builtin; refine Kd.R_append_row (Value.int .u8) (0 : Int) (w0 := w1) w1.heap.size rfl (.tmp 62) (.tmp 63) 22 5 (.int .u8 0) 1 rfl Tryd.underlying22 info5 rfl (by decide) _ B0 bh A2 bh.length c2 (fun _ => True) rfl rfl (fun _ _ => trivial) HR22.out HC2.out HB2.out HB2.out.size (by have := HQ.out; simp; omega) ?_; intro v3 w3 R3 b3 _ _; rw [HL.out.all] at R3; obtain ⟨AC, cC, rfl, qC, CC⟩ := wire_form R3; have HR3 := Lib.hid R3; have HB3 := Lib.hid b3; clear R3 CC b3))
  have BB3 := Lib.hid (below_then HB1.out HB1.out.size HB3.out)
  have RB3 := Lib.hid (wire_R_lower HR3.out HB1.out.size)
  have HD3 := Lib.hid (Kd.C_below HR1.out HB3.out)
  clear HR3 HB3 HC2 HB2 HR22 HRP HCP HR2
  have hBl := HBL.out
  have TK := Lib.hid (ck_Take_calls AC cC B a.length d.length kind d B0.length 0 w3 (wire_R_C RB3.out) qC HBB.out (by omega) (HT.out.keep BB3.out) HL.out.take)
  clear hBl
  refine TK.out.mono ?_; rintro e w4 ⟨A4, c4, rfl, q4, R4, b4⟩
  have BB4 := Lib.hid (below_then BB3.out BB3.out.size b4)
  have RB4 := Lib.hid (Kd.R_below RB3.out b4)
  have HD4 := Lib.hid (Kd.C_below HD3.out b4)
  have HG4 := Lib.hid (wire_R_C R4)
  clear b4 R4 TK BB3 RB3 HD3
  go_wp2_with fail
  obtain ⟨how, sz, body, hsk⟩ := HL.out.skip
  have hBl := HBL.out
  have SK := Lib.hid (ck_Skip_calls AC cC B a.length kind how sz body B0.length 0 w4 (wire_R_C RB4.out) qC HBB.out (by omega) (HT.out.keep BB4.out) hsk)
  clear hBl hsk
  refine SK.out.mono ?_; rintro e w5 ⟨rfl, b5⟩
  have BB5 := Lib.hid (below_then BB4.out BB4.out.size b5)
  have RB5 := Lib.hid (Kd.R_below RB4.out b5)
  have HD5 := Kd.C_below HD4.out b5
  have HG5 := Kd.C_below HG4.out b5
  clear b5 SK BB4 RB4 HD4 HG4
  have k1 := Kd.C_string (P := Tryd.prog) (src := 22) (dst := 9) (c := c1) Tryd.underlying22 (by kernel_rfl) Tryd.underlying9 HD5
  have k2 := Kd.C_string (P := Tryd.prog) (src := 22) (dst := 9) (c := c4) Tryd.underlying22 (by kernel_rfl) Tryd.underlying9 HG5
  rw [← Hsd.out] at k1 k2
  clear HD5 HG5
  go_wp2_with fail
  clear k1 k2
  have hBl := HBL.out
  have TK := Lib.hid (ck_Take_calls AC cC B a.length ((d.length : Int) - 1) 0 [] 0 6 w5 (wire_R_C RB5.out) qC HBB.out (by omega) (HT.out.keep BB5.out) HL.out.most)
  clear hBl
  refine TK.out.mono ?_; rintro e w6 ⟨A6, c6, rfl, q6, R6, b6⟩
  have BB6 := Lib.hid (below_then BB5.out BB5.out.size b6)
  have RB6 := Lib.hid (Kd.R_below RB5.out b6)
  clear b6 R6 TK BB5 RB5 q6
  have WK := Lib.hid (fun (W : World) (h : Below w.heap.size w W) => ck_wakes_calls W (HT.out.keep h))
  by_cases hc0 : ch = 0
  · have hc1 : (ch == (0 : Int)) = true := by simpa using hc0
    go_wp2_with fail
    refine (WK.out _ BB6.out).mono ?_; rintro e w7 ⟨rfl, b7⟩
    have BB7 := Lib.hid (below_then BB6.out BB6.out.size b7)
    clear b7
    go_wp2_with fail
    go_ret
    exact ⟨rfl, BB7.out⟩
  · have hc1 : (ch == (0 : Int)) = false := by simpa using hc0
    obtain ⟨D, hD⟩ : ∃ D : Nat, (D : Int) = (B0.length : Int) - a.length := ⟨B0.length - a.length, by have := HQ.out; omega⟩
    obtain ⟨J, hJ⟩ : ∃ J : Nat, (J : Int) = at_ % (D : Int) := ⟨(at_ % (D : Int)).toNat, by
      have := Int.emod_nonneg at_ (show (D : Int) ≠ 0 by have := HQ.out; omega)
      omega⟩
    have hJD : J < D := by
      have := Int.emod_lt_of_pos at_ (show (0 : Int) < D by have := HQ.out; omega)
      omega
    obtain ⟨I, hI⟩ : ∃ I : Nat, I = a.length + J := ⟨_, rfl⟩
    obtain ⟨k2, h2, s2, b2, n2, f2, hrd, hf⟩ := HL.out.turn hc0 I (by rw [← hD, ← hJ]; omega)
    have hDD := HQ.out
    have f1 : IntKind.i64.wrap ((B0.length : Int) - a.length) = (D : Int) := by rw [← hD]; exact IntWalk.i64_in _ (by omega)
    have f2' : at_.tmod (D : Int) = (J : Int) := by rw [hJ]; exact Int.tmod_eq_emod_of_nonneg hat.1
    have f3 : IntKind.i64.wrap (J : Int) = J := IntWalk.i64_in _ (by omega)
    have f4 : IntKind.i64.wrap ((a.length : Int) + J) = (I : Int) := by rw [IntWalk.i64_in _ (by omega)]; omega
    have f5 : IntKind.i64.wrap at_ = at_ := IntWalk.i64_in _ (by omega)
    have f6 : (D : Int) ≠ 0 := by omega
    have f6' : ((D : Int) == 0) = false := by simp; omega
    have hIB : I < B.length := by have := HBL.out; omega
    have hIB' : (I : Int) < B.length := by omega
    obtain ⟨g, e2, hg, hcell⟩ := ck_own RB6.out (by omega)
    subst e2
    have hci := (hcell I hIB).1
    have hfi := (hcell I hIB).2
    obtain ⟨x, hx⟩ : ∃ x, B.getD I 0 = x := ⟨_, rfl⟩
    rw [hx] at hci hrd
    obtain ⟨y, hy⟩ : ∃ y, bits .xor .u8 x ch = y := ⟨_, rfl⟩
    rw [hy] at hrd
    have hyr : 0 ≤ y ∧ y < 256 := by
      rw [← hy]
      simp only [Go.bits]
      rw [IntKind.wrap_u8]
      omega
    have RP := (Kd.R_put RB6.out (I : Int) y).1
    rw [Int.toNat_natCast] at RP
    obtain ⟨B', hB'⟩ : ∃ B', B.set I y = B' := ⟨_, rfl⟩
    have hl' : B'.length = B.length := by rw [← hB', List.length_set]
    rw [hB'] at hrd
    rw [hB', ← hl'] at RP
    have hBB' : IsB B' := by
      rw [← hB']
      intro z hz
      rcases List.mem_or_eq_of_mem_set hz with hz | rfl
      · exact HBB.out z hz
      · exact hyr
    have BB7 := Lib.hid (BB6.out.setCell (p := ⟨g, I, none⟩) hg (.int .u8 y))
    have hBl := HBL.out
    have SK := Lib.hid (ck_Skip_calls (some ⟨g, 0, none⟩) cC B' a.length k2 h2 s2 b2 n2 f2 (w6.setCell ⟨g, I, none⟩ (.int .u8 y)) (wire_R_C RP) (by omega) hBB' (by omega) (HT.out.keep BB7.out) hrd)
    rw [hl'] at SK
    have HF := Lib.hid hf
    clear hcell hx hB' hl' hBB' RP hrd hf hBl hI hD hJ hDD hIB hyr BB6 RB6
    go_wp2_with fail
    refine SK.out.mono ?_; rintro e w8 ⟨rfl, b8⟩
    have BB8 := Lib.hid (below_then BB7.out BB7.out.size b8)
    clear b8 SK BB7 hci hfi
    have hf := HF.out
    clear HF
    by_cases hf0 : f2 = 0
    · have hn := hf.resolve_left (fun h => h hf0)
      subst hf0
      have g1 : (n2 == (B0.length : Int)) = false := by simpa using hn
      have g2 : (n2 != (B0.length : Int)) = true := by simpa using hn
      clear hf hn
      go_wp2_with fail
      refine (WK.out _ BB8.out).mono ?_; rintro e w9 ⟨rfl, b9⟩
      have BB9 := Lib.hid (below_then BB8.out BB8.out.size b9)
      clear b9
      go_wp2_with fail
      go_ret
      exact ⟨rfl, BB9.out⟩
    · have g1 : (f2 == (0 : Int)) = false := by simpa using hf0
      have g2 : (f2 != (0 : Int)) = true := by simpa using hf0
      clear hf
      go_wp2_with fail
      refine (WK.out _ BB8.out).mono ?_; rintro e w9 ⟨rfl, b9⟩
      have BB9 := Lib.hid (below_then BB8.out BB8.out.size b9)
      clear b9
      go_wp2_with fail
      go_ret
      exact ⟨rfl, BB9.out⟩
end Go.Proofs.YtigcgdhihaibbaaDoor.PLz
