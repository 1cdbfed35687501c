/- Chunk: the document's reader against the program's: bytes. No program in sight. -/
import Derived.Test.YtigcgdhihaibbaaDoorK8
import Derived.Test.YtigcgdhihaibbaaDoorPTkx2
import Derived.Test.YtigcgdhihaibbaaDoorKT5
namespace Go.Proofs.YtigcgdhihaibbaaDoor.PLz
open Go.Proofs.YtigcgdhihaibbaaDoor.PTk
open Go.RowKit Go.Proofs.YtigcgdhihaibbaaDoorW.PrintWords Go.Proofs.YtigcgdhihaibbaaDoorW.PrintLast
set_option linter.unusedVariables false
theorem rel_bytes {l : List Int} (hl : l.length ≤ 1000000) {p e n p2 e2 : Int} {bs : List Int} (hp : Pl l p) (h : wire_Reader_Bytes.f l p e n = some (bs, p2, e2)) :
    rematchref01_Reader_Bytes.f (strOfNums (l.drop p.toNat)) p e n = some (strOfNums bs, strOfNums (l.drop p2.toNat), p2, e2) := by
  have h1 := hp.1
  have h2 := hp.2
  have hsz : ((strOfNums (l.drop p.toNat)).size : Int) = (l.length : Int) - p := by rw [str_size, List.length_drop]; omega
  unfold wire_Reader_Bytes.f at h
  unfold rematchref01_Reader_Bytes.f
  by_cases he : e = 0
  · rw [if_pos he, if_pos (by omega)] at h
    rw [if_pos he]
    by_cases hn : n < 0
    · rw [if_pos hn] at h ⊢
      injection h with h
      simp only [Prod.mk.injEq] at h
      obtain ⟨rfl, rfl, rfl⟩ := h
      rfl
    · rw [if_neg hn] at h ⊢
      by_cases hs : (l.length : Int) - p < n
      · rw [if_pos (by rw [List.length_drop]; omega)] at h
        rw [if_pos (by omega)]
        injection h with h
        simp only [Prod.mk.injEq] at h
        obtain ⟨rfl, rfl, rfl⟩ := h
        rfl
      · rw [if_neg (by rw [List.length_drop]; omega)] at h
        rw [if_neg (by omega), if_pos (by omega), if_pos (by omega)]
        injection h with h
        simp only [Prod.mk.injEq] at h
        obtain ⟨rfl, rfl, rfl⟩ := h
        unfold rematchref01_Reader_skip.f
        rw [if_pos (by omega), if_pos (by omega), Option.bind_some]
        have hw : wrap64 (p + n) = p + n := by unfold wrap64; omega
        rw [hw, str_cut, str_cut, str_size, he]
        have e3 : (l.drop p.toNat).drop n.toNat = l.drop (p + n).toNat := by rw [List.drop_drop]; congr 1; omega
        have e4 : (l.drop (p + n).toNat).take ((l.drop p.toNat).length - n.toNat) = l.drop (p + n).toNat := List.take_of_length_le (by simp only [List.length_drop]; omega)
        rw [e3, e4, List.drop_zero, Nat.sub_zero]
  · rw [if_neg he] at h ⊢
    injection h with h
    simp only [Prod.mk.injEq] at h
    obtain ⟨rfl, rfl, rfl⟩ := h
    rfl
theorem rel_int {l : List Int} (hB : IsB l) (hl : l.length ≤ 1000000) {p e v p2 e2 : Int} (hp : Pl l p) (h : wire_Reader_Int.f l p e = some (v, p2, e2)) :
    Ev (fun k => rematchref01_Reader_Num.f k (strOfNums (l.drop p.toNat)) p e 2147483647) (v, strOfNums (l.drop p2.toNat), p2, e2) := by
  have h1 := hp.1
  have h2 := hp.2
  unfold wire_Reader_Int.f at h
  by_cases he : e = 0
  · rw [if_pos he, if_pos (by omega), rd_vr hB hl, Option.bind_some] at h
    have hn := Pure.LzU.num_ok (c := l.drop p.toNat) (isB_drop hB _) p (by rw [List.length_drop]; omega)
    have hv := vr_any (isB_drop hB p.toNat) 10 0 0 (by omega)
    have hcn := wire_vr_len (l.drop p.toNat) 10 0 0
    rw [List.length_drop] at hcn
    obtain ⟨⟨x, c, r⟩, hV⟩ : ∃ V, wire_vr (l.drop p.toNat) 10 0 0 = V := ⟨_, rfl⟩
    rw [hV] at h hn hv hcn
    simp only at h hn hv hcn
    subst he
    by_cases hr : r = 0
    · subst hr
      have hc1 := hv.2.2 rfl
      rw [if_neg (by simp)] at hn
      by_cases hb : 2147483647 < x
      · rw [if_pos hb] at h hn
        injection h with h
        simp only [Prod.mk.injEq] at h
        obtain ⟨rfl, rfl, rfl⟩ := h
        exact hn
      · rw [if_neg hb] at h hn
        rw [if_pos hv.1] at h
        injection h with h
        simp only [Prod.mk.injEq, if_pos] at h
        obtain ⟨rfl, rfl, rfl⟩ := h
        have hw : wrap64 (p + c) = p + c := by unfold wrap64; omega
        have e3 : (l.drop p.toNat).drop c.toNat = l.drop (p + c).toNat := by rw [List.drop_drop]; congr 1; omega
        rw [hw, e3] at hn
        exact hn
    · have hx := hv.2.1 hr
      rw [if_pos hr] at hn
      rw [if_neg (by omega), if_pos (by omega), if_neg hr] at h
      injection h with h
      simp only [Prod.mk.injEq] at h
      obtain ⟨rfl, rfl, rfl⟩ := h
      rw [hx]
      exact hn
  · rw [if_neg he] at h
    injection h with h
    simp only [Prod.mk.injEq] at h
    obtain ⟨rfl, rfl, rfl⟩ := h
    refine ⟨0, fun k _ => ?_⟩
    show rematchref01_Reader_Num.f k (strOfNums (l.drop p.toNat)) p e 2147483647 = _
    unfold rematchref01_Reader_Num.f
    rw [if_neg he]
end Go.Proofs.YtigcgdhihaibbaaDoor.PLz
