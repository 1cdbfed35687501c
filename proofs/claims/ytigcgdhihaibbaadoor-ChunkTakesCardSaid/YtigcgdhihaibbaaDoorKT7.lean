/- Chunk: the document's Read against the program's. No program in sight. -/
import Derived.Test.YtigcgdhihaibbaaDoorKT6
import Derived.Test.YtigcgdhihaibbaaDoorKT1
namespace Go.Proofs.YtigcgdhihaibbaaDoor.PLz
open Go.Proofs.YtigcgdhihaibbaaDoor.PTk Go.Proofs.YtigcgdhihaibbaaDoor.PRef
open Go.RowKit Go.Proofs.YtigcgdhihaibbaaDoorW.PrintWords Go.Proofs.YtigcgdhihaibbaaDoorW.PrintLast
set_option linter.unusedVariables false
theorem bytes_strT {l : List Int} (h : IsB l) : bytesOf (strOfNums l) = l := by
  unfold bytesOf strOfNums
  simp only [List.map_map]
  conv => rhs; rw [← List.map_id l]
  refine List.map_congr_left fun x hx => ?_
  have := h x hx
  simp only [Function.comp, UInt8.toNat_ofNat', id]
  omega
theorem str_eqT {a b : List Int} (ha : IsB a) (hb : IsB b) : (strOfNums a).toList = (strOfNums b).toList ↔ a = b := by
  constructor
  · intro h
    have h2 : (strOfNums a) = (strOfNums b) := by
      apply ByteArray.ext
      rw [ByteArray.toList_eq, ByteArray.toList_eq] at h
      exact Array.toList_inj.1 h
    rw [← bytes_strT ha, ← bytes_strT hb, h2]
  · intro h; rw [h]
theorem fixed_refT (n : Int) (h : 0 ≤ n ∧ n < 4294967296) : rematchref01_Fixed.f n = some (strOfNums (ck_fix n)) := by
  unfold rematchref01_Fixed.f ck_fix
  rw [Int.tdiv_eq_ediv_of_nonneg h.1, Int.tdiv_eq_ediv_of_nonneg h.1, Int.tdiv_eq_ediv_of_nonneg h.1, Int.tmod_eq_emod_of_nonneg h.1]
  have e1 : n / 16777216 % 4294967296 % 256 = n / 16777216 := by omega
  have e2 : n / 65536 % 4294967296 % 256 = n / 65536 % 256 := by omega
  have e3 : n / 256 % 4294967296 % 256 = n / 256 % 256 := by omega
  have e4 : n % 256 % 256 = n % 256 := by omega
  rw [e1, e2, e3, e4]
theorem isB_fix (n : Int) (h : 0 ≤ n ∧ n < 4294967296) : IsB (ck_fix n) := by
  intro x hx
  simp only [ck_fix, List.mem_cons, List.not_mem_nil, or_false] at hx
  rcases hx with rfl | rfl | rfl | rfl <;> omega
theorem rel_read {b : List Int} (hB : IsB b) (hl : b.length ≤ 4000) {at_ k h s n e : Int} {bd : List Int} (hr : ck_read b at_ = some (k, h, s, bd, n, e)) :
    Ev (fun kk => rf_read kk (strOfNums b) at_) (k, decide (h = 1), s, strOfNums bd, n, e) := by
  unfold ck_read at hr
  by_cases hout : at_ < 0 ∨ (b.length : Int) < at_
  · rw [if_pos hout] at hr
    injection hr with hr
    simp only [Prod.mk.injEq] at hr
    obtain ⟨rfl, rfl, rfl, rfl, rfl, rfl⟩ := hr
    refine ⟨0, fun kk _ => ?_⟩
    show rf_read kk (strOfNums b) at_ = _
    unfold rf_read
    rw [if_pos (by rw [str_size]; exact hout)]
    rfl
  · rw [if_neg hout] at hr
    obtain ⟨m, rfl⟩ : ∃ m : Nat, at_ = m := ⟨at_.toNat, by omega⟩
    rw [Int.toNat_natCast] at hr
    have hm : m ≤ b.length := by omega
    obtain ⟨l, hll⟩ : ∃ l, b.drop m = l := ⟨_, rfl⟩
    have hlB : IsB l := by rw [← hll]; exact isB_drop hB _
    have hlL : l.length ≤ 1000000 := by rw [← hll, List.length_drop]; omega
    have hcut : (strOfNums b).extract m (strOfNums b).size = strOfNums l := by
      rw [str_cut, hll, str_size, List.take_of_length_le (by rw [← hll, List.length_drop]; omega)]
    rw [hll] at hr
    obtain ⟨⟨v1, p1, e1⟩, h1, hX⟩ := Option.bind_eq_some_iff.1 hr
    clear hr
    have hr := hX
    clear hX
    obtain ⟨⟨v2, p2, e2⟩, h2, hX⟩ := Option.bind_eq_some_iff.1 hr
    clear hr
    have hr := hX
    clear hX
    simp only at hr h2
    have r2 := ck_byte_range hlB h2
    obtain ⟨b1, g1, x1⟩ := byte_of h1
    obtain ⟨b2, g2, x2⟩ := byte_of h2
    have P0 : Pl l 0 := ⟨by omega, by omega⟩
    have R1 := rel_bytes hlL P0 g1
    have f1 := bytes_facts g1
    have P1 : Pl l p1 := by
      by_cases he : e1 = 0
      · have := f1.1 he; exact ⟨by omega, by omega⟩
      · have := f1.2 he; exact ⟨by omega, by omega⟩
    have R2 := rel_bytes hlL P1 g2
    have f2 := bytes_facts g2
    have P2 : Pl l p2 := by
      have := P1.1
      have := P1.2
      by_cases he : e2 = 0
      · have := f2.1 he; exact ⟨by omega, by omega⟩
      · have := f2.2 he; exact ⟨by omega, by omega⟩
    rw [show (0 : Int).toNat = 0 from rfl, List.drop_zero] at R1
    by_cases he2 : e2 = 0
    · subst he2
      obtain ⟨ee, -, hb2l, -, -⟩ := f2.1 rfl
      subst ee
      obtain ⟨-, -, hb1l, -, -⟩ := f1.1 rfl
      have hb1B := (ck_Bytes_of hlB g1).1
      have hb2B := (ck_Bytes_of hlB g2).1
      have t2 : bt (strOfNums b2) 0 = v2 := by rw [str_bt hb2B 0 (by omega) (by omega)]; exact x2
      have t1 : bt (strOfNums b1) 0 = v1 := by rw [str_bt hb1B 0 (by omega) (by omega)]; exact x1
      have zz : ¬ ¬ (0 < (strOfNums b1).size ∧ 0 < (strOfNums b2).size) := fun hn => hn ⟨by rw [str_size]; omega, by rw [str_size]; omega⟩
      by_cases hgt : 1 < v2
      · rw [if_pos hgt] at hr
        injection hr with hr
        simp only [Prod.mk.injEq] at hr
        obtain ⟨rfl, rfl, rfl, rfl, rfl, rfl⟩ := hr
        refine ⟨0, fun kk _ => ?_⟩
        show rf_read kk (strOfNums b) (m : Int) = _
        unfold rf_read
        rw [if_neg (by rw [str_size]; exact hout), Int.toNat_natCast, hcut, R1, Option.bind_some]
        simp only
        rw [R2, Option.bind_some]
        simp only
        rw [if_neg (by simp), if_neg zz, t2, if_pos hgt]
        rfl
      · rw [if_neg hgt] at hr
        obtain ⟨⟨v3, p3, e3⟩, h3, hX⟩ := Option.bind_eq_some_iff.1 hr
        clear hr
        have hr := hX
        clear hX
        obtain ⟨⟨v4, p4, e4⟩, h4, hX⟩ := Option.bind_eq_some_iff.1 hr
        clear hr
        have hr := hX
        clear hX
        simp only at hr h3 h4
        obtain ⟨K3, E3⟩ := rel_int hlB hlL P2 h3
        obtain ⟨z3, q3, w3, hz3, P3, r3a, r3b⟩ := int_any hlB hlL p2 0 P2
        rw [h3] at hz3
        injection hz3 with hz3
        simp only [Prod.mk.injEq] at hz3
        obtain ⟨rfl, rfl, rfl⟩ := hz3
        obtain ⟨K4, E4⟩ := rel_int hlB hlL P3 h4
        obtain ⟨z4, q4, w4, hz4, P4, r4a, r4b⟩ := int_any hlB hlL p3 e3 P3
        rw [h4] at hz4
        injection hz4 with hz4
        simp only [Prod.mk.injEq] at hz4
        obtain ⟨rfl, rfl, rfl⟩ := hz4
        refine ⟨max K3 K4, fun kk hk => ?_⟩
        have hk3 : K3 ≤ kk := Nat.le_trans (Nat.le_max_left _ _) hk
        have hk4 : K4 ≤ kk := Nat.le_trans (Nat.le_max_right _ _) hk
        replace E3 := E3 kk hk3
        replace E4 := E4 kk hk4
        simp only at E3 E4
        show rf_read kk (strOfNums b) (m : Int) = _
        unfold rf_read
        rw [if_neg (by rw [str_size]; exact hout), Int.toNat_natCast, hcut, R1, Option.bind_some]
        simp only
        rw [R2, Option.bind_some]
        simp only
        rw [if_neg (by simp), if_neg zz, t2, if_neg hgt, E3, Option.bind_some]
        simp only
        rw [E4, Option.bind_some]
        simp only
        clear E3 E4 R1 R2
        by_cases he4 : e4 = 0
        · subst he4
          rw [if_neg (by simp), if_neg (fun hn => hn ⟨r3a, r3b, r4a, r4b⟩)]
          by_cases hf : (v2 = 0 ∧ v4 ≠ v3) ∨ (v2 = 1 ∧ v3 ≤ v4)
          · rw [if_pos hf]
            rw [if_pos ⟨rfl, hf⟩] at hr
            injection hr with hr
            simp only [Prod.mk.injEq] at hr
            obtain ⟨rfl, rfl, rfl, rfl, rfl, rfl⟩ := hr
            rfl
          · rw [if_neg hf]
            rw [if_neg (fun hh => hf hh.2)] at hr
            obtain ⟨⟨v5, p5, e5⟩, h5, hX⟩ := Option.bind_eq_some_iff.1 hr
            clear hr
            have hr := hX
            clear hX
            obtain ⟨⟨v6, p6, e6⟩, h6, hX⟩ := Option.bind_eq_some_iff.1 hr
            clear hr
            have hr := hX
            clear hX
            simp only at hr h5 h6
            have R5 := rel_bytes hlL P4 h5
            have f5 := bytes_facts h5
            have P5 : Pl l p5 := by
              have := P4.1
              have := P4.2
              by_cases he : e5 = 0
              · have := f5.1 he; exact ⟨by omega, by omega⟩
              · have := f5.2 he; exact ⟨by omega, by omega⟩
            obtain ⟨b6, g6, x6⟩ := fixed_of h6
            have R6 := rel_bytes hlL P5 g6
            have f6 := bytes_facts g6
            have P6 : Pl l p6 := by
              have := P5.1
              have := P5.2
              by_cases he : e6 = 0
              · have := f6.1 he; exact ⟨by omega, by omega⟩
              · have := f6.2 he; exact ⟨by omega, by omega⟩
            rw [R5, Option.bind_some]
            simp only
            rw [R6, Option.bind_some]
            simp only
            by_cases he6 : e6 = 0
            · subst he6
              obtain ⟨-, -, hb6l, -, -⟩ := f6.1 rfl
              have hb6B := (ck_Bytes_of hlB g6).1
              rw [if_neg (by simp)] at hr
              have hlen : (l.length : Int) = (b.length : Int) - m := by rw [← hll, List.length_drop]; omega
              have hp51 := P5.1
              have hp52 := P5.2
              have hp61 := P6.1
              have hp62 := P6.2
              rw [if_neg (fun hn => hn ⟨hp51, hp52, hp61, hp62, r2.1⟩)] at hr
              rw [if_neg (by simp), if_neg (fun hn => hn ⟨hp51, by rw [str_size]; omega, hp61, by rw [str_size]; omega⟩)]
              have hcutb : (strOfNums b).extract m ((m : Int) + p5).toNat = strOfNums (l.take p5.toNat) := by
                rw [str_cut, hll]
                congr 2
                omega
              have hlt : IsB (l.take p5.toNat) := isB_take hlB _
              rw [hcutb, bytes_strT hlt, fixed_refT _ (ck_crc_range _), Option.bind_some]
              have hfx := fix_num _ (ck_crc_range (l.take p5.toNat))
              have hfB := isB_fix _ (ck_crc_range (l.take p5.toNat))
              by_cases hc : ck_crc (l.take p5.toNat) = v6
              · rw [if_neg (fun hn => hn hc)] at hr
                have hq : ck_fix (ck_crc (l.take p5.toNat)) = b6 := ck_num_inj (by rw [show (ck_fix (ck_crc (l.take p5.toNat))).length = 4 from rfl]; omega) hfB hb6B (by rw [hfx, x6]; exact hc)
                rw [hq, if_neg (fun hn => hn rfl), t1]
                injection hr with hr
                simp only [Prod.mk.injEq] at hr
                obtain ⟨rfl, rfl, rfl, rfl, rfl, rfl⟩ := hr
                rfl
              · rw [if_pos hc] at hr
                have hq : ck_fix (ck_crc (l.take p5.toNat)) ≠ b6 := fun hq => hc (by rw [← hfx, hq]; exact x6)
                rw [if_pos (fun hn => hq ((str_eqT hfB hb6B).1 hn))]
                injection hr with hr
                simp only [Prod.mk.injEq] at hr
                obtain ⟨rfl, rfl, rfl, rfl, rfl, rfl⟩ := hr
                rfl
            · rw [if_pos he6] at hr ⊢
              injection hr with hr
              simp only [Prod.mk.injEq] at hr
              obtain ⟨rfl, rfl, rfl, rfl, rfl, rfl⟩ := hr
              rfl
        · have j5 : wire_Reader_Bytes.f l p4 e4 v4 = some ([], p4, e4) := by unfold wire_Reader_Bytes.f; rw [if_neg he4]
          have j6 : wire_Reader_Bytes.f l p4 e4 4 = some ([], p4, e4) := by unfold wire_Reader_Bytes.f; rw [if_neg he4]
          have j7 : wire_Reader_Fixed.f l p4 e4 = some (ck_num [], p4, e4) := by unfold wire_Reader_Fixed.f; rw [j6]; rfl
          rw [if_neg (fun hh => he4 hh.1), j5, Option.bind_some] at hr
          simp only at hr
          rw [j7, Option.bind_some] at hr
          simp only at hr
          rw [if_pos he4] at hr ⊢
          injection hr with hr
          simp only [Prod.mk.injEq] at hr
          obtain ⟨rfl, rfl, rfl, rfl, rfl, rfl⟩ := hr
          rfl
    · have hb2 := (f2.2 he2).1
      have hv2 : v2 = 0 := by rw [← x2, hb2]; rfl
      rw [hv2, if_neg (by decide)] at hr
      have i1 : wire_Reader_Int.f l p2 e2 = some (0, p2, e2) := by unfold wire_Reader_Int.f; rw [if_neg he2]
      have i2 : wire_Reader_Bytes.f l p2 e2 0 = some ([], p2, e2) := by unfold wire_Reader_Bytes.f; rw [if_neg he2]
      have i4 : wire_Reader_Bytes.f l p2 e2 4 = some ([], p2, e2) := by unfold wire_Reader_Bytes.f; rw [if_neg he2]
      have i3 : wire_Reader_Fixed.f l p2 e2 = some (ck_num [], p2, e2) := by unfold wire_Reader_Fixed.f; rw [i4]; rfl
      rw [i1, Option.bind_some] at hr
      simp only at hr
      rw [i1, Option.bind_some] at hr
      simp only at hr
      rw [if_neg (fun hh => he2 hh.1), i2, Option.bind_some] at hr
      simp only at hr
      rw [i3, Option.bind_some] at hr
      simp only at hr
      rw [if_pos he2] at hr
      injection hr with hr
      simp only [Prod.mk.injEq] at hr
      obtain ⟨rfl, rfl, rfl, rfl, rfl, rfl⟩ := hr
      refine ⟨0, fun kk _ => ?_⟩
      show rf_read kk (strOfNums b) (m : Int) = _
      unfold rf_read
      rw [if_neg (by rw [str_size]; exact hout), Int.toNat_natCast, hcut, R1, Option.bind_some]
      simp only
      rw [R2, Option.bind_some]
      simp only
      rw [if_pos he2]
      rfl
end Go.Proofs.YtigcgdhihaibbaaDoor.PLz
