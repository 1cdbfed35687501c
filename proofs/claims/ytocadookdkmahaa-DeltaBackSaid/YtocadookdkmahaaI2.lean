/- Layer 3 (delta): tokens are read back; any tokens are read. No program in sight. -/
import Derived.Test.YtocadookdkmahaaI1
namespace Go.Proofs.Ytocadookdkmahaa.PDl
open Go.RowKit Go.Proofs.YtocadookdkmahaaW.PrintWords Go.Proofs.YtocadookdkmahaaW.PrintLast
open Go.Proofs.Ytocadookdkmahaa.PLz (IsB isB_get isB_take isB_drop isB_app wire_vb wire_vr wire_vr_len wire_bytes wire_varint.f wire_Reader_Int.f wire_Reader_Text.f wire_Text_out lb_vr_put lb_vb_bytes str_size)
open Go.Proofs.Ytocadookdkmahaa.PDeltaDiffs (delta_mix.f slices_Equal_byte_byte.f slices_Equal_byte_byte.l0)
set_option linter.unusedVariables false
theorem rd_bytes {d : List Int} (h : IsB d) : wire_bytes d = true := by
  unfold wire_bytes
  rw [List.all_eq_true]
  intro x hx
  exact decide_eq_true (h x hx)
theorem rd_vr {d : List Int} (hd : IsB d) (hl : d.length ≤ 100000) (p : Nat) : wire_varint.f (d.drop p) = some (wire_vr (d.drop p) 10 0 0) := by
  unfold wire_varint.f
  rw [if_pos ⟨rd_bytes (isB_drop hd p), by rw [List.length_drop]; omega⟩]
theorem rd_int {d rest : List Int} {p a : Nat} (hd : IsB d) (hl : d.length ≤ 100000) (hp : p ≤ d.length) (ha : a ≤ 2147483647) (h : d.drop p = wire_vb 9 (a : Int) ++ rest) :
    wire_Reader_Int.f d p 0 = some ((a : Int), ((p + (wire_vb 9 (a : Int)).length : Nat) : Int), 0) := by
  unfold wire_Reader_Int.f
  rw [if_pos rfl, if_pos (by omega), Int.toNat_natCast, rd_vr hd hl, h, lb_vr_put _ _ (by omega), Option.bind_some]
  simp only
  rw [if_neg (by omega), if_pos (by omega), if_pos trivial]
  rfl
theorem rd_text {d lit rest : List Int} {p : Nat} {m : Int} (hd : IsB d) (hl : d.length ≤ 100000) (hp : p ≤ d.length) (hlit : (lit.length : Int) ≤ m) (hm : m < 9223372036854775808) (hll : lit.length ≤ 100000)
    (h : d.drop p = wire_vb 9 (lit.length : Int) ++ (lit ++ rest)) :
    wire_Reader_Text.f d p 0 m = some (strOfNums lit, ((p + ((wire_vb 9 (lit.length : Int)).length + lit.length) : Nat) : Int), 0) := by
  unfold wire_Reader_Text.f
  rw [if_pos rfl, if_pos (by omega), Int.toNat_natCast, rd_vr hd hl, h, lb_vr_put _ _ (by omega), Option.bind_some]
  unfold wire_Text_out
  simp only
  rw [if_neg (by simp), if_neg (by omega), if_neg (by omega), if_neg (by omega), if_neg (by simp only [List.length_append]; omega), Int.toNat_natCast, Int.toNat_natCast, List.drop_left, List.take_left]
  rfl
theorem vr_any {l : List Int} (hl : IsB l) : ∀ (k i : Nat) (n : Int), 0 ≤ n → 0 ≤ (wire_vr l k i n).1 ∧ ((wire_vr l k i n).2.2 ≠ 0 → (wire_vr l k i n).1 = 0) ∧ ((wire_vr l k i n).2.2 = 0 → 1 ≤ (wire_vr l k i n).2.1)
  | 0, i, n, h => by rw [wire_vr]; simp
  | k + 1, i, n, h => by
    have hg := isB_get hl i
    have hp : (0 : Int) ≤ 128 ^ i := Int.pow_nonneg (by decide)
    rw [wire_vr]
    split
    · simp
    · split
      · simp
      · split
        · refine ⟨Int.add_nonneg h (Int.mul_nonneg hg.1 hp), fun h => absurd rfl h, fun _ => ?_⟩
          show (1 : Int) ≤ (i : Int) + 1
          omega
        · exact vr_any hl k (i + 1) _ (Int.add_nonneg h (Int.mul_nonneg (by omega) hp))
theorem int_any {d : List Int} (hd : IsB d) (hl : d.length ≤ 100000) (p : Nat) (hp : p ≤ d.length) :
    ∃ z p' e, wire_Reader_Int.f d p 0 = some (z, p', e) ∧ 0 ≤ z ∧ z ≤ 2147483647 ∧ (e ≠ 0 → p' = p) ∧ (e = 0 → ∃ q : Nat, p' = q ∧ p + 1 ≤ q ∧ q ≤ d.length) := by
  have hv := vr_any (isB_drop hd p) 10 0 0 (by omega)
  have hn := wire_vr_len (d.drop p) 10 0 0
  rw [List.length_drop] at hn
  unfold wire_Reader_Int.f
  rw [if_pos rfl, if_pos (by omega), Int.toNat_natCast, rd_vr hd hl, Option.bind_some]
  obtain ⟨v, hvv⟩ : ∃ v, wire_vr (d.drop p) 10 0 0 = v := ⟨_, rfl⟩
  rw [hvv] at hv hn ⊢
  by_cases hb : 2147483647 < v.1
  · rw [if_pos hb]
    exact ⟨_, _, _, rfl, by omega, by omega, fun _ => rfl, fun h => absurd h (by decide)⟩
  · rw [if_neg hb, if_pos hv.1]
    refine ⟨_, _, _, rfl, hv.1, by omega, fun h => by rw [if_neg h], fun h => ?_⟩
    have := hv.2.2 h
    rw [if_pos h]
    exact ⟨p + v.2.1.toNat, by omega, by omega, by omega⟩
theorem text_any {d : List Int} (hd : IsB d) (hl : d.length ≤ 100000) (p : Nat) (hp : p ≤ d.length) (m : Int) (hm : 0 ≤ m ∧ m < 9223372036854775808) :
    ∃ t p' e, wire_Reader_Text.f d p 0 m = some (t, p', e) ∧ (e = 0 → ∃ (q : Nat) (lit : List Int), p' = q ∧ p + 1 ≤ q ∧ q ≤ d.length ∧ t = strOfNums lit ∧ IsB lit ∧ (lit.length : Int) ≤ m) := by
  have hv := vr_any (isB_drop hd p) 10 0 0 (by omega)
  have hn := wire_vr_len (d.drop p) 10 0 0
  have hd2 := isB_drop hd p
  rw [List.length_drop] at hn
  unfold wire_Reader_Text.f
  rw [if_pos rfl, if_pos (by omega), Int.toNat_natCast, rd_vr hd hl, Option.bind_some]
  obtain ⟨v, hvv⟩ : ∃ v, wire_vr (d.drop p) 10 0 0 = v := ⟨_, rfl⟩
  rw [hvv] at hv hn ⊢
  unfold wire_Text_out
  by_cases he : v.2.2 ≠ 0
  · rw [if_pos he]
    exact ⟨_, _, _, rfl, fun h => absurd h he⟩
  · rw [if_neg he, if_neg (by omega)]
    have h1 := hv.2.2 (by omega)
    by_cases hb : m < v.1
    · rw [if_pos hb]
      exact ⟨_, _, _, rfl, fun h => absurd h (by decide)⟩
    · rw [if_neg hb, if_neg (by omega), List.length_drop]
      by_cases hs : ((d.length - p : Nat) : Int) - v.2.1 < v.1
      · rw [if_pos hs]
        exact ⟨_, _, _, rfl, fun h => absurd h (by decide)⟩
      · rw [if_neg hs]
        refine ⟨_, _, _, rfl, fun _ => ⟨p + (v.2.1.toNat + v.1.toNat), _, by omega, by omega, by omega, rfl, isB_take (isB_drop hd2 _) _, ?_⟩⟩
        rw [List.length_take]
        omega
theorem text_err (d : List Int) (p e m : Int) (h : e ≠ 0) : wire_Reader_Text.f d p e m = some (⟨#[]⟩, p, e) := by
  unfold wire_Reader_Text.f
  rw [if_neg h]
theorem lay_at : ∀ (lit A B C : List Int), B.length = lit.length → dl_lay (A ++ (B ++ C)) A.length lit = A ++ (lit ++ C)
  | [], A, B, C, h => by
    obtain rfl := List.length_eq_zero_iff.1 h
    rw [dl_lay]
  | x :: lit, A, [], C, h => by cases h
  | x :: lit, A, b :: B, C, h => by
    rw [dl_lay]
    have e1 : (A ++ (b :: B ++ C)).set A.length x = (A ++ [x]) ++ (B ++ C) := by
      rw [List.set_append_right _ _ (Nat.le_refl _)]
      simp
    have e2 : A.length + 1 = (A ++ [x]).length := by simp
    rw [e1, e2, lay_at lit (A ++ [x]) B C (by simpa using h)]
    simp
theorem lay_bytes : ∀ (bs xs : List Int) (o : Nat), IsB bs → IsB xs → IsB (dl_lay xs o bs)
  | [], xs, o, h, k => k
  | b :: bs, xs, o, h, k => by
    rw [dl_lay]
    refine lay_bytes bs _ _ (fun x hx => h x (List.mem_cons_of_mem _ hx)) (fun x hx => ?_)
    rcases List.mem_or_eq_of_mem_set hx with hx | rfl
    · exact k x hx
    · exact h _ (List.mem_cons_self ..)
theorem zeros_take : ∀ r : List Int, r.take (dl_zeros r) = List.replicate (dl_zeros r) 0
  | [] => rfl
  | x :: l => by
    rw [dl_zeros]
    split
    · rename_i h
      rw [List.take_succ_cons, List.replicate_succ, zeros_take l, h]
    · rfl
theorem bytes_repl (n : Nat) : IsB (List.replicate n 0) := fun x hx => by
  rw [List.eq_of_mem_replicate hx]
  omega
end Go.Proofs.Ytocadookdkmahaa.PDl
