/- Chunk: what is put is read; what is read; a changed byte. No program in sight. -/
import Derived.Test.YtigcgdhihaibbaaDoorK7
import Derived.Test.YtigcgdhihaibbaaDoorZB
namespace Go.Proofs.YtigcgdhihaibbaaDoor.PLz
open Go.RowKit Go.Proofs.YtigcgdhihaibbaaDoorW.PrintWords Go.Proofs.YtigcgdhihaibbaaDoorW.PrintLast
open Go.Proofs.YtigcgdhihaibbaaDoor.CrcP
set_option linter.unusedVariables false
theorem rd_bytes {d : List Int} (h : IsB d) : wire_bytes d = true := by
  unfold wire_bytes
  rw [List.all_eq_true]
  intro x hx
  exact decide_eq_true (h x hx)
theorem rd_vr {d : List Int} (hd : IsB d) (hl : d.length ≤ 1000000) (p : Nat) : wire_varint.f (d.drop p) = some (wire_vr (d.drop p) 10 0 0) := by
  unfold wire_varint.f
  rw [if_pos ⟨rd_bytes (isB_drop hd p), by rw [List.length_drop]; omega⟩]
theorem vr_any {l : List Int} (hl : IsB l) : ∀ (k i : Nat) (n : Int), 0 ≤ n → 0 ≤ (wire_vr l k i n).1 ∧ ((wire_vr l k i n).2.2 ≠ 0 → (wire_vr l k i n).1 = 0) ∧ ((wire_vr l k i n).2.2 = 0 → 1 ≤ (wire_vr l k i n).2.1)
  | 0, i, n, h => by rw [wire_vr]; simp
  | k + 1, i, n, h => by
    have hg := isB_get hl i
    have hp : (0 : Int) ≤ 128 ^ i := Int.pow_nonneg (by decide)
    rw [wire_vr]
    split
    · simp
    · split
      · simp
      · split
        · refine ⟨Int.add_nonneg h (Int.mul_nonneg hg.1 hp), fun h => absurd rfl h, fun _ => ?_⟩
          show (1 : Int) ≤ (i : Int) + 1
          omega
        · exact vr_any hl k (i + 1) _ (Int.add_nonneg h (Int.mul_nonneg (by omega) hp))
/-- where a reader may stand -/
def Pl (l : List Int) (p : Int) : Prop := 0 ≤ p ∧ p ≤ l.length
theorem int_any {d : List Int} (hd : IsB d) (hl : d.length ≤ 1000000) (p e : Int) (hp : Pl d p) : ∃ z p' e', wire_Reader_Int.f d p e = some (z, p', e') ∧ Pl d p' ∧ 0 ≤ z ∧ z ≤ 2147483647 := by
  obtain ⟨p, rfl⟩ := Int.eq_ofNat_of_zero_le hp.1
  have hp2 := hp.2
  unfold wire_Reader_Int.f
  by_cases he : e = 0
  · have hv := vr_any (isB_drop hd p) 10 0 0 (by omega)
    have hn := wire_vr_len (d.drop p) 10 0 0
    rw [List.length_drop] at hn
    rw [if_pos he, if_pos (by omega), Int.toNat_natCast, rd_vr hd hl, Option.bind_some]
    obtain ⟨v, hvv⟩ : ∃ v, wire_vr (d.drop p) 10 0 0 = v := ⟨_, rfl⟩
    rw [hvv] at hv hn ⊢
    by_cases hb : 2147483647 < v.1
    · rw [if_pos hb]
      exact ⟨_, _, _, rfl, hp, by omega, by omega⟩
    · rw [if_neg hb, if_pos hv.1]
      refine ⟨_, _, _, rfl, ?_, hv.1, by omega⟩
      split
      · rename_i h0
        have := hv.2.2 h0
        exact ⟨by omega, by omega⟩
      · exact hp
  · rw [if_neg he]
    exact ⟨_, _, _, rfl, hp, by omega, by omega⟩
theorem bytes_any {d : List Int} (hl : d.length ≤ 1000000) (p e n : Int) (hp : Pl d p) : ∃ bs p' e', wire_Reader_Bytes.f d p e n = some (bs, p', e') ∧ Pl d p' := by
  have h1 := hp.1
  have h2 := hp.2
  unfold wire_Reader_Bytes.f
  by_cases he : e = 0
  · rw [if_pos he, if_pos (by omega)]
    by_cases hn : n < 0
    · rw [if_pos hn]
      exact ⟨_, _, _, rfl, hp⟩
    · rw [if_neg hn]
      split
      · exact ⟨_, _, _, rfl, hp⟩
      · rename_i hs
        rw [List.length_drop] at hs
        exact ⟨_, _, _, rfl, by omega, by omega⟩
  · rw [if_neg he]
    exact ⟨_, _, _, rfl, hp⟩
theorem byte_any {d : List Int} (hl : d.length ≤ 1000000) (p e : Int) (hp : Pl d p) : ∃ x p' e', ck_byte d p e = some (x, p', e') ∧ Pl d p' := by
  obtain ⟨bs, p', e', h, hp'⟩ := bytes_any hl p e 1 hp
  unfold ck_byte
  rw [h]
  exact ⟨_, _, _, rfl, hp'⟩
theorem fixed_any {d : List Int} (hl : d.length ≤ 1000000) (p e : Int) (hp : Pl d p) : ∃ x p' e', wire_Reader_Fixed.f d p e = some (x, p', e') ∧ Pl d p' := by
  obtain ⟨bs, p', e', h, hp'⟩ := bytes_any hl p e 4 hp
  unfold wire_Reader_Fixed.f
  rw [h]
  exact ⟨_, _, _, rfl, hp'⟩
theorem read_any {b : List Int} (hb : IsB b) (hl : b.length ≤ 1000000) (at_ : Int) : ∃ k h s bd n e, ck_read b at_ = some (k, h, s, bd, n, e) := by
  unfold ck_read
  split
  · exact ⟨_, _, _, _, _, _, rfl⟩
  · obtain ⟨l, hll⟩ : ∃ l, b.drop at_.toNat = l := ⟨_, rfl⟩
    have hlB : IsB l := by rw [← hll]; exact isB_drop hb _
    have hlL : l.length ≤ 1000000 := by rw [← hll, List.length_drop]; omega
    rw [hll]
    obtain ⟨v1, p1, e1, h1, P1⟩ := byte_any hlL 0 0 ⟨by omega, by omega⟩
    rw [h1, Option.bind_some]
    obtain ⟨v2, p2, e2, h2, P2⟩ := byte_any hlL p1 e1 P1
    simp only
    have r2 := ck_byte_range hlB h2
    rw [h2, Option.bind_some]
    simp only
    split
    · exact ⟨_, _, _, _, _, _, rfl⟩
    · obtain ⟨v3, p3, e3, h3, P3, _⟩ := int_any hlB hlL p2 e2 P2
      rw [h3, Option.bind_some]
      simp only
      obtain ⟨v4, p4, e4, h4, P4, _⟩ := int_any hlB hlL p3 e3 P3
      rw [h4, Option.bind_some]
      simp only
      split
      · exact ⟨_, _, _, _, _, _, rfl⟩
      · obtain ⟨v5, p5, e5, h5, P5⟩ := bytes_any hlL p4 e4 v4 P4
        rw [h5, Option.bind_some]
        simp only
        obtain ⟨v6, p6, e6, h6, P6⟩ := fixed_any hlL p5 e5 P5
        rw [h6, Option.bind_some]
        simp only
        split
        · exact ⟨_, _, _, _, _, _, rfl⟩
        · rw [if_neg (by have := P5.1; have := P5.2; have := P6.1; have := P6.2; simp; omega)]
          split
          · exact ⟨_, _, _, _, _, _, rfl⟩
          · exact ⟨_, _, _, _, _, _, rfl⟩
theorem num_inj : ∀ (l m : List Int) (o q : Int), l.length = m.length → IsB l → IsB m → l.foldl (fun o c => o * 256 + c) o = m.foldl (fun o c => o * 256 + c) q → o = q ∧ l = m
  | [], [], o, q, _, _, _, h => ⟨h, rfl⟩
  | [], y :: m, o, q, hl, _, _, _ => by cases hl
  | x :: l, [], o, q, hl, _, _, _ => by cases hl
  | x :: l, y :: m, o, q, hl, h1, h2, h => by
    have hx := h1 x (List.mem_cons_self ..)
    have hy := h2 y (List.mem_cons_self ..)
    rw [List.foldl_cons, List.foldl_cons] at h
    obtain ⟨a, b⟩ := num_inj l m _ _ (by simpa using hl) (fun z hz => h1 z (List.mem_cons_of_mem _ hz)) (fun z hz => h2 z (List.mem_cons_of_mem _ hz)) h
    have : o = q := by omega
    subst this
    exact ⟨rfl, by rw [b, show x = y by omega]⟩
theorem ck_num_inj {l m : List Int} (hl : l.length = m.length) (h1 : IsB l) (h2 : IsB m) (h : ck_num l = ck_num m) : l = m := (num_inj l m 0 0 hl h1 h2 h).2
theorem fix_num (n : Int) (h : 0 ≤ n ∧ n < 4294967296) : ck_num (ck_fix n) = n := by
  unfold ck_num ck_fix
  simp only [List.foldl_cons, List.foldl_nil]
  omega
end Go.Proofs.YtigcgdhihaibbaaDoor.PLz
