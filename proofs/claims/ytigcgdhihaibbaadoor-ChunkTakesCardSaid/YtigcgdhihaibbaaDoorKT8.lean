/- Chunk: the document's Take against the program's, and the law's call. No condition. -/
import Derived.Test.YtigcgdhihaibbaaDoorKT3
import Derived.Test.YtigcgdhihaibbaaDoorKT7
import Derived.Test.YtigcgdhihaibbaaDoorKT2
namespace Go.Proofs.YtigcgdhihaibbaaDoor.PLz
open Go.Proofs.YtigcgdhihaibbaaDoor.PTk
open Go.RowKit Go.Proofs.YtigcgdhihaibbaaDoorW.PrintWords Go.Proofs.YtigcgdhihaibbaaDoorW.PrintLast
set_option linter.unusedVariables false
theorem read_facts {b : List Int} (hB : IsB b) (hl : b.length ≤ 4000) {at_ k h s n e : Int} {bd : List Int} (hr : ck_read b at_ = some (k, h, s, bd, n, e)) :
    (h = 0 ∨ h = 1) ∧ 0 ≤ s ∧ s ≤ 2147483647 ∧ IsB bd ∧ bd.length ≤ b.length := by
  have hnil : ∀ {k h s n e : Int} {bd : List Int} {x : Int}, (some (0, 0, 0, [], 0, x) : Option (Int × Int × Int × List Int × Int × Int)) = some (k, h, s, bd, n, e) → (h = 0 ∨ h = 1) ∧ 0 ≤ s ∧ s ≤ 2147483647 ∧ IsB bd ∧ bd.length ≤ b.length := by
    intro k h s n e bd x hh
    injection hh with hh
    simp only [Prod.mk.injEq] at hh
    obtain ⟨rfl, rfl, rfl, rfl, rfl, rfl⟩ := hh
    exact ⟨.inl rfl, by omega, by omega, isB_nil, by simp⟩
  unfold ck_read at hr
  split at hr
  · exact hnil hr
  · obtain ⟨l, hll⟩ : ∃ l, b.drop at_.toNat = l := ⟨_, rfl⟩
    have hlB : IsB l := by rw [← hll]; exact isB_drop hB _
    have hlb : l.length ≤ b.length := by rw [← hll, List.length_drop]; omega
    have hlL : l.length ≤ 1000000 := by omega
    rw [hll] at hr
    obtain ⟨⟨v1, p1, e1⟩, h1, hX⟩ := Option.bind_eq_some_iff.1 hr
    clear hr
    obtain ⟨⟨v2, p2, e2⟩, h2, hr⟩ := Option.bind_eq_some_iff.1 hX
    clear hX
    simp only at hr h2
    have r2 := ck_byte_range hlB h2
    obtain ⟨b1, g1, x1⟩ := byte_of h1
    obtain ⟨b2, g2, x2⟩ := byte_of h2
    have f1 := bytes_facts g1
    have P1 : Pl l p1 := by
      by_cases he : e1 = 0
      · have := f1.1 he; exact ⟨by omega, by omega⟩
      · have := f1.2 he; exact ⟨by omega, by omega⟩
    have f2 := bytes_facts g2
    have P2 : Pl l p2 := by
      have := P1.1
      have := P1.2
      by_cases he : e2 = 0
      · have := f2.1 he; exact ⟨by omega, by omega⟩
      · have := f2.2 he; exact ⟨by omega, by omega⟩
    split at hr
    · exact hnil hr
    · rename_i hgt
      obtain ⟨⟨v3, p3, e3⟩, h3, hX⟩ := Option.bind_eq_some_iff.1 hr
      clear hr
      obtain ⟨⟨v4, p4, e4⟩, h4, hr⟩ := Option.bind_eq_some_iff.1 hX
      clear hX
      simp only at hr h3 h4
      obtain ⟨z3, q3, w3, hz3, P3, r3a, r3b⟩ := int_any hlB hlL p2 e2 P2
      rw [h3] at hz3
      injection hz3 with hz3
      simp only [Prod.mk.injEq] at hz3
      obtain ⟨rfl, rfl, rfl⟩ := hz3
      split at hr
      · exact hnil hr
      · obtain ⟨⟨v5, p5, e5⟩, h5, hX⟩ := Option.bind_eq_some_iff.1 hr
        clear hr
        obtain ⟨⟨v6, p6, e6⟩, h6, hr⟩ := Option.bind_eq_some_iff.1 hX
        clear hX
        simp only at hr h5 h6
        have f5 := bytes_facts h5
        split at hr
        · exact hnil hr
        · split at hr
          · cases hr
          · split at hr
            · exact hnil hr
            · injection hr with hr
              simp only [Prod.mk.injEq] at hr
              obtain ⟨rfl, rfl, rfl, rfl, rfl, rfl⟩ := hr
              refine ⟨by omega, r3a, r3b, (ck_Bytes_of hlB h5).1, ?_⟩
              by_cases he : e5 = 0
              · have := f5.1 he
                have hb5 : v5.length ≤ l.length := by
                  obtain ⟨z4, q4, w4, hz4, P4, r4a, r4b⟩ := int_any hlB hlL p3 e3 P3
                  rw [h4] at hz4
                  injection hz4 with hz4
                  simp only [Prod.mk.injEq] at hz4
                  obtain ⟨rfl, rfl, rfl⟩ := hz4
                  have := P4.1
                  omega
                omega
              · rw [(f5.2 he).1]; simp
theorem rel_unpack {body : List Int} {size : Int} (hB : IsB body) (hl : body.length ≤ 6000) (hs : size ≤ 2147483647) :
    Ev (fun k => rematchref04_Unpack.f k (strOfNums body) size) (strOfNums (lz_unF (max 0 size) (body.length + 1) body []).1, (lz_unF (max 0 size) (body.length + 1) body []).2) := by
  have hj : ∀ M : Int, M = max 0 size → Ev (fun k => rematchref04_Unpack.j0 k (strOfNums body) M) (strOfNums (lz_unF (max 0 size) (body.length + 1) body []).1, (lz_unF (max 0 size) (body.length + 1) body []).2) := fun M hM => by
    refine Ev.step (fun k => by rw [rematchref04_Unpack.j0]) ?_
    rw [hM]
    exact Pure.LzU.un_ok (by omega) (body.length + 1) body [] 0 (by omega) (by omega) hB isB_nil (by simp; omega)
  unfold rematchref04_Unpack.f
  by_cases h0 : size < 0
  · simp only [if_pos h0]; exact hj 0 (by omega)
  · simp only [if_neg h0]; exact hj size (by omega)
theorem unpack_any {body : List Int} {size : Int} (hB : IsB body) (hl : body.length ≤ 6000) (hs : size ≤ 2147483647) :
    PLzG.lz_Unpack.f body size = some (lz_unF (max 0 size) (body.length + 1) body []) := by
  have hb : wire_bytes body = true := by
    unfold wire_bytes
    rw [List.all_eq_true]
    intro x hx
    simpa using hB x hx
  unfold PLzG.lz_Unpack.f
  rw [if_pos ⟨hb, hl, hs⟩]
theorem take_any {b : List Int} (hB : IsB b) (hl : b.length ≤ 4000) (at_ most : Int) : ∃ k d n e, PLzG.ck_take b at_ most = some (k, d, n, e) := by
  obtain ⟨k, h, s, bd, n, e, hr⟩ := read_any hB (by omega) at_
  obtain ⟨f1, f2, f3, f4, f5⟩ := read_facts hB hl hr
  unfold PLzG.ck_take
  rw [hr, Option.bind_some]
  simp only
  split
  · exact ⟨_, _, _, _, rfl⟩
  · split
    · exact ⟨_, _, _, _, rfl⟩
    · split
      · exact ⟨_, _, _, _, rfl⟩
      · rw [unpack_any f4 (by omega) f3, Option.bind_some]
        split
        · exact ⟨_, _, _, _, rfl⟩
        · exact ⟨_, _, _, _, rfl⟩
theorem rel_take {b : List Int} (hB : IsB b) (hl : b.length ≤ 4000) {at_ most k n e : Int} {d : List Int} (ht : PLzG.ck_take b at_ most = some (k, d, n, e)) :
    Ev (fun kk => rf_take kk (strOfNums b) at_ most) (k, strOfNums d, n, e) := by
  unfold PLzG.ck_take at ht
  obtain ⟨⟨k1, h1, s1, bd1, n1, e1⟩, hr, hX⟩ := Option.bind_eq_some_iff.1 ht
  clear ht
  have ht := hX
  clear hX
  simp only at ht
  obtain ⟨f1, f2, f3, f4, f5⟩ := read_facts hB hl hr
  obtain ⟨K1, E1⟩ := rel_read hB hl hr
  rw [unpack_any f4 (by omega) f3, Option.bind_some] at ht
  obtain ⟨K2, E2⟩ := rel_unpack f4 (by omega) f3
  refine ⟨max K1 K2, fun kk hk => ?_⟩
  replace E1 := E1 kk (Nat.le_trans (Nat.le_max_left _ _) hk)
  replace E2 := E2 kk (Nat.le_trans (Nat.le_max_right _ _) hk)
  simp only at E1 E2
  show rf_take kk (strOfNums b) at_ most = _
  unfold rf_take
  rw [E1, Option.bind_some]
  simp only
  rw [E2, Option.bind_some]
  simp only
  obtain ⟨⟨u, ue⟩, hu⟩ : ∃ U, lz_unF (max 0 s1) (bd1.length + 1) bd1 [] = U := ⟨_, rfl⟩
  rw [hu] at ht ⊢
  simp only at ht ⊢
  rw [str_size]
  by_cases c1 : e1 ≠ 0
  · rw [if_pos c1] at ht ⊢
    injection ht with ht
    simp only [Prod.mk.injEq] at ht
    obtain ⟨rfl, rfl, rfl, rfl⟩ := ht
    rfl
  · rw [if_neg c1] at ht ⊢
    by_cases c2 : most < s1
    · rw [if_pos c2] at ht ⊢
      injection ht with ht
      simp only [Prod.mk.injEq] at ht
      obtain ⟨rfl, rfl, rfl, rfl⟩ := ht
      rfl
    · rw [if_neg c2] at ht ⊢
      by_cases c3 : h1 = 0
      · rw [if_pos c3] at ht
        rw [if_pos (by simp; omega)]
        injection ht with ht
        simp only [Prod.mk.injEq] at ht
        obtain ⟨rfl, rfl, rfl, rfl⟩ := ht
        rfl
      · rw [if_neg c3] at ht
        rw [if_neg (by simp; omega)]
        by_cases c4 : ue ≠ 0 ∨ (u.length : Int) ≠ s1
        · rw [if_pos c4] at ht ⊢
          injection ht with ht
          simp only [Prod.mk.injEq] at ht
          obtain ⟨rfl, rfl, rfl, rfl⟩ := ht
          rfl
        · rw [if_neg c4] at ht ⊢
          injection ht with ht
          simp only [Prod.mk.injEq] at ht
          obtain ⟨rfl, rfl, rfl, rfl⟩ := ht
          rfl
theorem str_bytesT (s : ByteArray) : strOfNums (bytesOf s) = s := by
  apply ByteArray.ext
  apply Array.toList_inj.1
  rw [strOfNums_data]
  unfold bytesOf
  rw [List.map_map]
  conv => rhs; rw [← List.map_id s.data.toList]
  refine List.map_congr_left fun x hx => ?_
  simp
theorem ck_takes_law (s : ByteArray) (at_ most : Int) (w : World) (hT : Tab w) :
    Calls Tryd.prog 4 #[.string s, .int .i64 at_, .int .i64 most] w fun e w' => e = .returned (.bool true) ∧ Below w.heap.size w w' := by
  by_cases hs : 4000 < s.size
  · exact ck_takes_big s at_ most w hT hs
  · have hB : IsB (bytesOf s) := tk_bytesOf s
    have hl : (bytesOf s).length ≤ 4000 := by rw [← str_size, str_bytesT]; omega
    obtain ⟨k, h, sz, bd, n, e, hr⟩ := read_any hB (by omega) at_
    obtain ⟨k2, d2, n2, e2, ht⟩ := take_any hB hl at_ most
    obtain ⟨K1, E1⟩ := rel_read hB hl hr
    obtain ⟨K2, E2⟩ := rel_take hB hl ht
    replace E1 := E1 K1 (Nat.le_refl _)
    replace E2 := E2 K2 (Nat.le_refl _)
    simp only [str_bytesT] at E1 E2
    exact ck_takes_walk s at_ most k h sz n e k2 n2 e2 sz (decide (h = 1)) (strOfNums bd) bd d2 w (by omega) hT hr ht
      (fun W => rf_read_calls K1 s at_ k _ sz _ n e W (by omega) E1) (fun W => rf_take_calls K2 s at_ most k2 _ n2 e2 W (by omega) E2)
end Go.Proofs.YtigcgdhihaibbaaDoor.PLz
