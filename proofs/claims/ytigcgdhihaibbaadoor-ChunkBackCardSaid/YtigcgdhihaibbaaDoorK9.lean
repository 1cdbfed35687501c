/- Chunk: what is put is taken as itself; with a byte changed it is refused, or ends elsewhere. No program in sight. -/
import Derived.Test.YtigcgdhihaibbaaDoorK8
namespace Go.Proofs.YtigcgdhihaibbaaDoor.PLz
open Go.RowKit Go.Proofs.YtigcgdhihaibbaaDoorW.PrintWords Go.Proofs.YtigcgdhihaibbaaDoorW.PrintLast
open Go.Proofs.YtigcgdhihaibbaaDoor.CrcP
set_option linter.unusedVariables false
theorem body_le (d : List Int) : (ck_body d).length ≤ d.length := by
  unfold ck_body
  split <;> omega
theorem body_bytes {d : List Int} (h : IsB d) : IsB (ck_body d) := by
  unfold ck_body
  split
  · exact lb_isB h
  · exact h
theorem how_range (d : List Int) : ck_how d = 0 ∨ ck_how d = 1 := by
  unfold ck_how
  split
  · exact .inr rfl
  · exact .inl rfl
theorem main_bytes {kind : Int} {d : List Int} (hk : 0 ≤ kind ∧ kind < 256) (h : IsB d) : IsB (ck_main kind d) := by
  unfold ck_main
  refine isB_app (isB_app (isB_app (fun x hx => ?_) (ck_vb_bytes _ _ (by omega))) (ck_vb_bytes _ _ (by omega))) (body_bytes h)
  have := how_range d
  simp only [List.mem_cons, List.not_mem_nil, or_false] at hx
  rcases hx with rfl | rfl <;> omega
theorem vb2 (n : Nat) (h : n < 16384) : (wire_vb 9 (n : Int)).length ≤ 2 := by
  rw [wire_vb]
  split
  · rw [wire_vb, if_neg (by omega)]
    simp
  · simp
theorem main_len (kind : Int) (d : List Int) (hd : d.length ≤ 2000) : (ck_main kind d).length ≤ d.length + 6 := by
  unfold ck_main
  simp only [List.length_append, List.length_cons, List.length_nil]
  have := vb2 d.length (by omega)
  have := vb2 (ck_body d).length (by have := body_le d; omega)
  have := body_le d
  omega
/-- a chunk, read from its place on -/
theorem put_read {a d bh : List Int} {kind : Int} (ha : IsB a) (hd : IsB d) (hb : IsB bh) (hk : 0 ≤ kind ∧ kind < 256) (hal : a.length ≤ 2000) (hdl : d.length ≤ 2000) (hbl : bh.length ≤ 2000) :
    ck_read (a ++ ck_put kind d ++ bh) (a.length : Int) = some (kind, ck_how d, (d.length : Int), ck_body d, ((a.length + (ck_put kind d).length : Nat) : Int), 0) := by
  obtain ⟨M, hM⟩ : ∃ M, ck_main kind d = M := ⟨_, rfl⟩
  have hMB : IsB M := by rw [← hM]; exact main_bytes hk hd
  have hMl : M.length ≤ d.length + 6 := by rw [← hM]; exact main_len kind d hdl
  have hcr := ck_crc_range M
  have hP : ck_put kind d = M ++ ck_fix (ck_crc M) := by unfold ck_put; rw [hM]
  have hF : (ck_fix (ck_crc M)).length = 4 := rfl
  obtain ⟨F, hFF⟩ : ∃ F, ck_fix (ck_crc M) = F := ⟨_, rfl⟩
  have hFn : ck_num F = ck_crc M := by rw [← hFF]; exact fix_num _ hcr
  have hFB : IsB F := by rw [← hFF]; exact fix_bytes _ hcr
  rw [hFF] at hP hF
  have hdrop : (a ++ ck_put kind d ++ bh).drop a.length = M ++ (F ++ bh) := by rw [List.append_assoc, List.drop_left, hP, List.append_assoc]
  obtain ⟨l, hl⟩ : ∃ l, M ++ (F ++ bh) = l := ⟨_, rfl⟩
  have hlB : IsB l := by rw [← hl]; exact isB_app hMB (isB_app hFB hb)
  have hll : l.length = M.length + 4 + bh.length := by rw [← hl, List.length_append, List.length_append, hF]; omega
  have hl6 : l.length ≤ 1000000 := by omega
  have hbd := body_le d
  obtain ⟨N, hN⟩ : ∃ N, ck_body d = N := ⟨_, rfl⟩
  obtain ⟨H, hH⟩ : ∃ H, ck_how d = H := ⟨_, rfl⟩
  have hH01 := how_range d
  rw [hN] at hbd
  rw [hH] at hH01
  have hMM : M = kind :: H :: (wire_vb 9 (d.length : Int) ++ (wire_vb 9 (N.length : Int) ++ N)) := by
    rw [← hM]
    unfold ck_main
    rw [hN, hH]
    simp
  obtain ⟨V, hV⟩ : ∃ V, wire_vb 9 (d.length : Int) = V := ⟨_, rfl⟩
  obtain ⟨U, hU⟩ : ∃ U, wire_vb 9 (N.length : Int) = U := ⟨_, rfl⟩
  rw [hV, hU] at hMM
  have hMl2 : M.length = 2 + V.length + U.length + N.length := by rw [hMM]; simp only [List.length_cons, List.length_append]; omega
  have d0 : l.drop 0 = kind :: (H :: (V ++ (U ++ (N ++ (F ++ bh))))) := by rw [List.drop_zero, ← hl, hMM]; simp
  have d1 : l.drop 1 = H :: (V ++ (U ++ (N ++ (F ++ bh)))) := by rw [← hl, hMM]; simp
  have d2 : l.drop 2 = V ++ (U ++ (N ++ (F ++ bh))) := by rw [← hl, hMM]; simp
  have d3 : l.drop (2 + V.length) = U ++ (N ++ (F ++ bh)) := by rw [← List.drop_drop, d2, List.drop_left]
  have d4 : l.drop (2 + V.length + U.length) = N ++ (F ++ bh) := by rw [← List.drop_drop, d3, List.drop_left]
  have d5 : l.drop (2 + V.length + U.length + N.length) = F ++ bh := by rw [← List.drop_drop, d4, List.drop_left]
  unfold ck_read
  rw [if_neg (by simp only [List.length_append]; omega), Int.toNat_natCast, hdrop, hl]
  have s1 := rd_byte hl6 d0 (by omega)
  have s2 := rd_byte hl6 d1 (by omega)
  rw [show ((0 : Nat) : Int) = 0 from rfl] at s1
  rw [s1, Option.bind_some]
  simp only
  rw [show (((0 + 1 : Nat)) : Int) = ((1 : Nat) : Int) from rfl, s2, Option.bind_some]
  simp only
  rw [if_neg (by omega)]
  have s3 := rd_int (p := 1 + 1) (a := d.length) hlB hl6 (by omega) (by omega) (by rw [hV]; exact d2)
  rw [s3, Option.bind_some]
  simp only
  rw [hV]
  have s4 := rd_int (p := 1 + 1 + V.length) (a := N.length) hlB hl6 (by omega) (by omega) (by rw [hU]; exact d3)
  rw [s4, Option.bind_some]
  simp only
  rw [hU]
  have hbody : ¬ (True ∧ ((H = 0 ∧ (N.length : Int) ≠ d.length) ∨ (H = 1 ∧ (d.length : Int) ≤ N.length))) := by
    rw [← hH, ← hN]
    unfold ck_how ck_body
    split
    · rintro ⟨-, ⟨h, -⟩ | ⟨-, h⟩⟩
      · exact absurd h (by decide)
      · omega
    · rintro ⟨-, ⟨-, h⟩ | ⟨h, -⟩⟩
      · exact h rfl
      · exact absurd h (by decide)
  rw [if_neg hbody]
  have s5 := rd_some (d := l) (p := 1 + 1 + V.length + U.length) (n := N.length) hl6 (by omega)
  rw [show (1 + 1 + V.length + U.length) = 2 + V.length + U.length from rfl, d4, List.take_left] at s5
  rw [show (1 + 1 + V.length + U.length) = 2 + V.length + U.length from rfl, s5, Option.bind_some]
  simp only
  have s6 : wire_Reader_Fixed.f l ((2 + V.length + U.length + N.length : Nat) : Int) 0 = some (ck_num F, ((2 + V.length + U.length + N.length + 4 : Nat) : Int), 0) := by
    unfold wire_Reader_Fixed.f
    have := rd_some (d := l) (p := 2 + V.length + U.length + N.length) (n := 4) hl6 (by omega)
    rw [show ((4 : Nat) : Int) = 4 from rfl] at this
    rw [this, Option.bind_some, d5]
    simp only
    rw [← hF, List.take_left]
  rw [s6, Option.bind_some]
  simp only
  rw [if_neg (by simp), if_neg (by simp; omega), Int.toNat_natCast]
  have ht : l.take (2 + V.length + U.length + N.length) = M := by rw [← hMl2, ← hl, List.take_left]
  have hend : (a.length : Int) + ((2 + V.length + U.length + N.length + 4 : Nat) : Int) = ((a.length + (M.length + 4) : Nat) : Int) := by omega
  rw [ht, hFn, if_neg (by simp), hP, List.length_append, hF, hend, hH, hN]
theorem body_take {d : List Int} (hd : IsB d) (hdl : d.length ≤ 2000) (kind nx : Int) : (if ck_how d = 0 then some (kind, ck_body d, nx, (0 : Int)) else (lz_Unpack.f (ck_body d) (d.length : Int)).bind fun u => if u.2 ≠ 0 ∨ (u.1.length : Int) ≠ d.length then some (0, [], 0, 4) else some (kind, u.1, nx, 0)) = some (kind, d, nx, 0) := by
  unfold ck_how ck_body
  by_cases h : (lz_pack d).length < d.length
  · rw [if_pos h, if_neg (by decide), if_pos h]
    have : lz_Unpack.f (lz_pack d) (d.length : Int) = some (d, 0) := by
      unfold lz_Unpack.f
      rw [if_pos ⟨rd_bytes (lb_isB hd), by omega, by omega⟩, show max 0 (d.length : Int) = d.length by omega, lb_back d _ (by omega), lb_res, if_pos (by omega)]
    rw [this, Option.bind_some]
    simp
  · rw [if_neg h, if_pos rfl, if_neg h]
theorem getD_split (l : List Int) (i : Nat) (h : i < l.length) : l = l.take i ++ l.getD i 0 :: l.drop (i + 1) := by
  have := List.take_append_drop i l
  rw [List.drop_eq_getElem_cons h] at this
  rw [List.getD_eq_getElem?_getD, List.getElem?_eq_getElem h]
  exact this.symm
theorem set_split (l : List Int) (i : Nat) (y : Int) (h : i < l.length) : l.set i y = l.take i ++ y :: l.drop (i + 1) := List.set_eq_take_append_cons_drop .. |>.trans (by rw [if_pos h])
theorem take_app {X R : List Int} {n : Nat} (h : X.length = n) : (X ++ R).take n = X := by
  subst h
  exact List.take_left
theorem drop_app {X R : List Int} {n : Nat} (h : X.length = n) : (X ++ R).drop n = R := by
  subst h
  exact List.drop_left
theorem ck_law {a d bh : List Int} {kind at_ ch : Int} (ha : IsB a) (hd : IsB d) (hb : IsB bh) (hk : 0 ≤ kind ∧ kind < 256) (hal : a.length ≤ 2000) (hdl : d.length ≤ 2000) (hbl : bh.length ≤ 2000) (hat : 0 ≤ at_ ∧ at_ < 65536) (hch : 0 ≤ ch ∧ ch < 256) :
    ck_Law a d bh (a ++ ck_put kind d) (a ++ ck_put kind d ++ bh) kind at_ ch := by
  have hrd := put_read ha hd hb hk hal hdl hbl
  obtain ⟨P, hP⟩ : ∃ P, ck_put kind d = P := ⟨_, rfl⟩
  have hM := main_len kind d hdl
  have hPl : P.length = (ck_main kind d).length + 4 := by rw [← hP]; unfold ck_put; rw [List.length_append]; rfl
  have hMB := main_bytes hk hd
  have hcr := ck_crc_range (ck_main kind d)
  have hPB : IsB P := by rw [← hP]; exact isB_app hMB (fix_bytes _ hcr)
  rw [hP] at hrd
  have hBl : ((a ++ P).length : Int) = ((a.length + P.length : Nat) : Int) := by rw [List.length_append]
  refine ⟨by rw [hP], by rw [hP], by rw [hP, List.length_append]; omega, by rw [hP, List.length_append]; omega, ?_, ?_, ?_, ?_⟩
  · rw [hP]
    unfold ck_take
    rw [hrd, Option.bind_some]
    simp only
    rw [if_neg (by simp), if_neg (by omega), hBl]
    exact body_take hd hdl kind _
  · rw [hP, hBl]
    exact ⟨_, _, _, hrd⟩
  · rw [hP]
    unfold ck_take
    rw [hrd, Option.bind_some]
    simp only
    rw [if_neg (by simp), if_pos (by omega)]
  · rw [hP]
    intro hc I hI
    obtain ⟨y, hy⟩ : ∃ y, bits .xor .u8 ((a ++ P ++ bh).getD I 0) ch = y := ⟨_, rfl⟩
    rw [hy]
    have hJ0 := Int.emod_nonneg at_ (show (((a ++ P).length : Int) - a.length) ≠ 0 by rw [hBl]; omega)
    have hJ1 := Int.emod_lt_of_pos at_ (show 0 < (((a ++ P).length : Int) - a.length) by rw [hBl]; omega)
    obtain ⟨R, hR⟩ : ∃ R, at_ % (((a ++ P).length : Int) - a.length) = R := ⟨_, rfl⟩
    rw [hR] at hI hJ0 hJ1
    obtain ⟨J, hJ⟩ : ∃ J : Nat, I = a.length + J := ⟨I - a.length, by omega⟩
    have hJP : J < P.length := by rw [hBl] at hJ1; omega
    subst hJ
    have hAB : IsB (a ++ P ++ bh) := isB_app (isB_app ha hPB) hb
    have hx := isB_get hPB J
    have hget : (a ++ P ++ bh).getD (a.length + J) 0 = P.getD J 0 := by
      rw [List.append_assoc, List.getD_eq_getElem?_getD, List.getElem?_append_right (by omega), Nat.add_sub_cancel_left, List.getElem?_append_left hJP, ← List.getD_eq_getElem?_getD]
    rw [hget] at hy
    have hyr : 0 ≤ y ∧ y < 256 := by
      rw [← hy]
      simp only [Go.bits]
      rw [IntKind.wrap_u8]
      omega
    have hxy : P.getD J 0 ≠ y := by
      intro e
      obtain ⟨x, hxx⟩ : ∃ x, P.getD J 0 = x := ⟨_, rfl⟩
      rw [hxx] at hy e hx
      rw [← e] at hy
      obtain ⟨n, rfl⟩ := Int.eq_ofNat_of_zero_le hx.1
      obtain ⟨c, rfl⟩ := Int.eq_ofNat_of_zero_le hch.1
      have hxor : n ^^^ c < 2 ^ 8 := Nat.xor_lt_two_pow (by omega) (by omega)
      have h1 : (BitVec.ofInt 8 (n : Int)).toNat = n := by
        rw [BitVec.ofInt_natCast, BitVec.toNat_ofNat]; exact Nat.mod_eq_of_lt (by omega)
      have h2 : (BitVec.ofInt 8 (c : Int)).toNat = c := by
        rw [BitVec.ofInt_natCast, BitVec.toNat_ofNat]; exact Nat.mod_eq_of_lt (by omega)
      have h3 : bits .xor .u8 (n : Int) (c : Int) = ((n ^^^ c : Nat) : Int) := by
        show IntKind.u8.wrap ((BitVec.ofInt 8 (n : Int) ^^^ BitVec.ofInt 8 (c : Int)).toNat : Int) = _
        rw [BitVec.toNat_xor, h1, h2, IntKind.wrap_u8]
        omega
      rw [h3] at hy
      have h4 : n ^^^ c = n := by omega
      have h5 : n ^^^ (n ^^^ c) = n ^^^ n := by rw [h4]
      rw [← Nat.xor_assoc, Nat.xor_self, Nat.zero_xor] at h5
      omega
    have hset : (a ++ P ++ bh).set (a.length + J) y = a ++ P.set J y ++ bh := by
      rw [List.append_assoc, List.set_append_right _ _ (by omega), Nat.add_sub_cancel_left, List.set_append_left _ _ hJP, List.append_assoc]
    rw [hset]
    have hPsB : IsB (P.set J y) := by
      intro z hz
      rcases List.mem_or_eq_of_mem_set hz with hz | rfl
      · exact hPB z hz
      · exact hyr
    have hB'B : IsB (a ++ P.set J y ++ bh) := isB_app (isB_app ha hPsB) hb
    obtain ⟨k2, h2, s2, b2, n2, f2, hr2⟩ := read_any hB'B (by simp only [List.length_append, List.length_set]; omega) (a.length : Int)
    refine ⟨k2, h2, s2, b2, n2, f2, hr2, ?_⟩
    by_cases hf : f2 = 0
    · refine .inr (fun hn => ?_)
      subst hf
      obtain ⟨q, hq1, hq2, hq3⟩ := read_ok (by simp only [List.length_append]; omega) hr2
      rw [hBl] at hn
      have hq : q = (ck_main kind d).length := by omega
      have hdr : (a ++ P.set J y ++ bh).drop a.length = P.set J y ++ bh := by rw [List.append_assoc, List.drop_left]
      rw [hdr, hq] at hq3
      have hPP : P = ck_main kind d ++ ck_fix (ck_crc (ck_main kind d)) := by rw [← hP]; rfl
      obtain ⟨M, hMM⟩ : ∃ M, ck_main kind d = M := ⟨_, rfl⟩
      rw [hMM] at hq3 hPP hMB hcr hPl
      obtain ⟨F, hFF⟩ : ∃ F, ck_fix (ck_crc M) = F := ⟨_, rfl⟩
      have hF4 : F.length = 4 := by rw [← hFF]; rfl
      have hFB : IsB F := by rw [← hFF]; exact fix_bytes _ hcr
      have hFn : ck_num F = ck_crc M := by rw [← hFF]; exact fix_num _ hcr
      rw [hFF] at hPP
      by_cases hJM : J < M.length
      · have e1 : P.set J y = M.set J y ++ F := by rw [hPP, List.set_append_left _ _ hJM]
        have e2 : (P.set J y ++ bh).take M.length = M.set J y := by
          rw [e1, List.append_assoc, take_app (by rw [List.length_set])]
        have e3 : ((P.set J y ++ bh).drop M.length).take 4 = F := by
          rw [e1, List.append_assoc, drop_app (by rw [List.length_set]), take_app hF4]
        rw [e2, e3, hFn] at hq3
        have hgM : P.getD J 0 = M.getD J 0 := by
          rw [hPP, List.getD_eq_getElem?_getD, List.getElem?_append_left hJM, ← List.getD_eq_getElem?_getD]
        rw [set_split M J y hJM] at hq3
        have hsp := getD_split M J hJM
        have hq4 : ck_crc (M.take J ++ y :: M.drop (J + 1)) = ck_crc (M.take J ++ M.getD J 0 :: M.drop (J + 1)) := by rw [← hsp]; exact hq3
        have := crc_one hyr (isB_get hMB J) hq4
        exact hxy (by rw [hgM]; exact this.symm)
      · have e1 : P.set J y = M ++ F.set (J - M.length) y := by rw [hPP, List.set_append_right _ _ (by omega)]
        have e2 : (P.set J y ++ bh).take M.length = M := by rw [e1, List.append_assoc, List.take_left]
        have e3 : ((P.set J y ++ bh).drop M.length).take 4 = F.set (J - M.length) y := by
          rw [e1, List.append_assoc, List.drop_left, take_app (by rw [List.length_set, hF4])]
        rw [e2, e3, ← hFn] at hq3
        have hFs : IsB (F.set (J - M.length) y) := by
          intro z hz
          rcases List.mem_or_eq_of_mem_set hz with hz | rfl
          · exact hFB z hz
          · exact hyr
        have hFF2 := ck_num_inj (by rw [List.length_set]) hFB hFs hq3
        have hgF : P.getD J 0 = F.getD (J - M.length) 0 := by
          rw [hPP, List.getD_eq_getElem?_getD, List.getElem?_append_right (by omega), ← List.getD_eq_getElem?_getD]
        have hlt : J - M.length < F.length := by omega
        have : F.getD (J - M.length) 0 = y := by
          rw [hFF2, List.getD_eq_getElem?_getD, List.getElem?_set_self hlt]
          rfl
        exact hxy (by rw [hgF]; exact this)
    · exact .inl hf
end Go.Proofs.YtigcgdhihaibbaaDoor.PLz
