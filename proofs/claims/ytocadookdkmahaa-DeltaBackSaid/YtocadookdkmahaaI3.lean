/- Layer 3 (delta): what differs is applied, and bytes that are applied are the difference of what they make. No program in sight. -/
import Derived.Test.YtocadookdkmahaaI2
namespace Go.Proofs.Ytocadookdkmahaa.PDl
open Go.RowKit Go.Proofs.YtocadookdkmahaaW.PrintWords Go.Proofs.YtocadookdkmahaaW.PrintLast
open Go.Proofs.Ytocadookdkmahaa.PLz (IsB isB_get isB_take isB_drop isB_app isB_nil wire_vb wire_bytes wire_Reader_Int.f wire_Reader_Text.f lb_vb_bytes str_size)
open Go.Proofs.Ytocadookdkmahaa.PDeltaDiffs (delta_mix.f delta_mix.mono slices_Equal_byte_byte.f slices_Equal_byte_byte.l0)
set_option linter.unusedVariables false
theorem vb_pos (n : Int) : 1 ≤ (wire_vb 9 n).length := by
  rw [wire_vb]
  split
  · simp
  · simp
theorem ap_toks {M d : List Int} (hM : IsB M) (hMl : M.length ≤ 3000) (hd : IsB d) (hl : d.length ≤ 100000) : ∀ (g f p at_ : Nat) (xs : List Int),
    M.length - at_ < g → at_ ≤ M.length → p ≤ d.length → d.drop p = dl_toks g (M.drop at_) → d.length - p < f →
    xs = M.take at_ ++ List.replicate (M.length - at_) 0 → dl_ap d (M.length : Int) f (p : Int) (at_ : Int) xs = some (M, 0)
  | 0, f, p, at_, xs, hg, _, _, _, _, _ => by omega
  | g + 1, f, p, at_, xs, hg, ha, hp, h, hf, hxs => by
    obtain ⟨f, rfl⟩ : ∃ f', f = f' + 1 := ⟨f - 1, by omega⟩
    have hxl : xs.length = M.length := by rw [hxs, List.length_append, List.length_take, List.length_replicate]; omega
    rw [dl_ap, if_pos ⟨by omega, by omega, by omega, by omega, by omega, by omega⟩]
    obtain ⟨r, hr⟩ : ∃ r, M.drop at_ = r := ⟨_, rfl⟩
    have hrl : r.length = M.length - at_ := by rw [← hr, List.length_drop]
    have hrB : IsB r := by rw [← hr]; exact isB_drop hM _
    rw [hr, dl_toks] at h
    have hzl := dl_zeros_le r
    have hzt := zeros_take r
    by_cases hz : dl_zeros r < r.length
    · rw [if_pos hz] at h
      obtain ⟨z, hzz⟩ : ∃ z, dl_zeros r = z := ⟨_, rfl⟩
      rw [hzz] at h hz hzl hzt
      obtain ⟨r1, hr1⟩ : ∃ r1, r.drop z = r1 := ⟨_, rfl⟩
      have hr1l : r1.length = r.length - z := by rw [← hr1, List.length_drop]
      have hr1B : IsB r1 := by rw [← hr1]; exact isB_drop hrB _
      rw [hr1] at h
      have hLl := dl_lits_le r1
      have hLp : 1 ≤ dl_lits r1 := dl_lits_pos (by rw [← hr1, ← hzz]; exact dl_zeros_stop r (by omega)) (by omega)
      obtain ⟨L, hL⟩ : ∃ L, dl_lits r1 = L := ⟨_, rfl⟩
      rw [hL] at h hLl hLp
      have hL1 : (r1.take L).length = L := by rw [List.length_take]; omega
      obtain ⟨lit, hlit⟩ : ∃ l, r1.take L = l := ⟨_, rfl⟩
      have hlB : IsB lit := by rw [← hlit]; exact isB_take hr1B _
      rw [hlit] at h hL1
      have hlen := congrArg List.length h
      simp only [List.length_append, List.length_drop] at hlen
      have vz := vb_pos (z : Int)
      have I1 := rd_int (p := p) hd hl hp (by omega) h
      have h2 : d.drop (p + (wire_vb 9 (z : Int)).length) = wire_vb 9 (lit.length : Int) ++ (lit ++ dl_toks g (r1.drop L)) := by
        rw [← List.drop_drop, h, List.drop_left, hL1]
      have h3 : d.drop (p + (wire_vb 9 (z : Int)).length + ((wire_vb 9 (lit.length : Int)).length + lit.length)) = dl_toks g (M.drop (at_ + z + L)) := by
        rw [← List.drop_drop, h2, ← List.drop_drop, List.drop_left, List.drop_left, ← hr1, ← hr, List.drop_drop, List.drop_drop, Nat.add_assoc]
      rw [← hL1] at hlen
      have I2 := rd_text (p := p + (wire_vb 9 (z : Int)).length) (m := (M.length : Int) - at_ - z) hd hl (by omega) (by omega) (by omega) (by omega) h2
      rw [if_pos (by omega), I1, Option.bind_some]
      simp only
      rw [if_neg (by omega), if_neg (by omega), I2, Option.bind_some]
      simp only
      rw [if_neg (by simp), if_pos ⟨by rw [str_size]; omega, trivial⟩, str_size, bytes_str hlB]
      have e1 : (at_ : Int) + z + lit.length = ((at_ + z + L : Nat) : Int) := by omega
      have e2 : ((at_ : Int) + z).toNat = at_ + z := by omega
      rw [e1, e2]
      refine ap_toks hM hMl hd hl g f _ (at_ + z + L) _ (by omega) (by omega) (by omega) h3 (by omega) ?_
      have e0 : List.replicate (M.length - at_) (0 : Int) = List.replicate z 0 ++ (List.replicate L 0 ++ List.replicate (M.length - (at_ + z + L)) 0) := by
        rw [List.replicate_append_replicate, List.replicate_append_replicate]
        congr 1
        omega
      have e3 : xs = (M.take (at_ + z)) ++ (List.replicate L 0 ++ List.replicate (M.length - (at_ + z + L)) 0) := by
        rw [hxs, e0, List.take_add, hr, hzt, List.append_assoc]
      have e4 : (M.take (at_ + z)).length = at_ + z := by rw [List.length_take]; omega
      have e5 := lay_at lit (M.take (at_ + z)) (List.replicate L 0) (List.replicate (M.length - (at_ + z + L)) 0) (by rw [List.length_replicate, hL1])
      rw [e4] at e5
      have e6 : M.take (at_ + z + L) = M.take (at_ + z) ++ lit := by rw [List.take_add, ← hlit, ← hr1, ← hr, List.drop_drop]
      rw [e3, e5, e6, List.append_assoc]
    · rw [if_neg hz] at h
      have hpl : p = d.length := by have := congrArg List.length h; rw [List.length_drop] at this; simp at this; omega
      rw [if_neg (by omega)]
      have e : xs = M := by
        rw [show dl_zeros r = r.length by omega, List.take_length] at hzt
        rw [hxs, ← hrl, ← hzt, ← hr, List.take_append_drop]
      rw [e]
theorem toks_bytes : ∀ (f : Nat) (r : List Int), IsB r → IsB (dl_toks f r)
  | 0, r, h => isB_nil
  | f + 1, r, h => by
    rw [dl_toks]
    split
    · exact isB_app (lb_vb_bytes _ _ (by omega)) (isB_app (lb_vb_bytes _ _ (by omega)) (isB_app (isB_take (isB_drop h _) _) (toks_bytes f _ (isB_drop (isB_drop h _) _))))
    · exact isB_nil
theorem diff_bytes {M : List Int} (h : IsB M) (n : Nat) : IsB (dl_diff M n) := by
  rw [dl_diff_toks]
  exact isB_app (lb_vb_bytes _ _ (by omega)) (toks_bytes _ _ h)
theorem mix_fk {a b : List Int} (ha : a.length ≤ 1000000) (hb : b.length ≤ 1000000) {k : Nat} (h : min a.length b.length + 1 ≤ k) : delta_mix.f k a b = some (dl_mix a b) := by
  obtain ⟨j, rfl⟩ := Nat.le.dest h
  induction j with
  | zero => exact dl_mix_f a b ha hb
  | succ j ih => exact delta_mix.mono a b _ _ (ih (by omega))
theorem eq_l0 {l m : List Int} (hlm : l.length = m.length) (hb : l.length ≤ 1000000) : ∀ (k i : Nat), i ≤ l.length → l.length - i < k → slices_Equal_byte_byte.l0 k l m (l.length : Int) (i : Int) = some (decide (l.drop i = m.drop i))
  | 0, i, h1, h2 => by omega
  | k + 1, i, h1, h2 => by
    rw [slices_Equal_byte_byte.l0]
    by_cases hi : i < l.length
    · have w1 : wrap64 ((i : Int) + 1) = ((i + 1 : Nat) : Int) := by unfold wrap64; omega
      rw [if_pos (by omega), if_pos (by omega), if_pos (by omega), if_pos (by omega), w1]
      unfold rd
      rw [Int.toNat_natCast]
      have hi2 : i < m.length := by omega
      have g1 : l.getD i 0 = l[i] := by rw [List.getD_eq_getElem?_getD, List.getElem?_eq_getElem hi]; rfl
      have g2 : m.getD i 0 = m[i] := by rw [List.getD_eq_getElem?_getD, List.getElem?_eq_getElem hi2]; rfl
      have hcl := List.drop_eq_getElem_cons hi
      have hcm := List.drop_eq_getElem_cons hi2
      rw [g1, g2]
      by_cases he : l[i] = m[i]
      · rw [if_pos he, eq_l0 hlm hb k (i + 1) (by omega) (by omega)]
        congr 1
        exact decide_eq_decide.2 ⟨fun e => by rw [hcl, hcm, he, e], fun e => by rw [hcl, hcm] at e; exact (List.cons.inj e).2⟩
      · rw [if_neg he]
        congr 1
        exact (decide_eq_false (fun e => by rw [hcl, hcm] at e; exact he (List.cons.inj e).1)).symm
    · rw [if_neg (by omega), List.drop_of_length_le (by omega), List.drop_of_length_le (by omega)]
      simp
theorem eq_f {l m : List Int} (hb : l.length ≤ 1000000) {k : Nat} (h : l.length < k) : slices_Equal_byte_byte.f k l m = some (decide (l = m)) := by
  unfold slices_Equal_byte_byte.f
  by_cases hlm : l.length = m.length
  · rw [if_pos (by omega)]
    have := eq_l0 hlm hb k 0 (by omega) (by omega)
    simpa using this
  · rw [if_neg (by omega)]
    have : ¬ l = m := fun e => hlm (by rw [e])
    simp [this]
theorem apply_back {a b : List Int} (ha : IsB a) (hb : IsB b) (hal : a.length ≤ 3000) (hbl : b.length ≤ 3000) {k : Nat} (hk : 10000 ≤ k) :
    dl_apply k a (dl_diff (dl_mix a b) b.length) (b.length : Int) = some (b, 0) := by
  obtain ⟨M, hM⟩ : ∃ M, dl_mix a b = M := ⟨_, rfl⟩
  have hMl : M.length = b.length := by rw [← hM, dl_mix_len]
  have hMB : IsB M := by rw [← hM]; exact dl_mix_isB ha hb
  have hback : dl_mix a M = b := by rw [← hM]; exact dl_mix_mix ha hb
  have hdl := dl_diff_len M (by omega)
  have hdB := diff_bytes hMB M.length
  have hdt := dl_diff_toks M M.length
  rw [hM, ← hMl]
  obtain ⟨d, hd⟩ : ∃ d, dl_diff M M.length = d := ⟨_, rfl⟩
  rw [hd] at hdl hdB hdt ⊢
  have I := rd_int (p := 0) (a := M.length) hdB (by omega) (by omega) (by omega) hdt
  have hdt2 : d.drop (0 + (wire_vb 9 (M.length : Int)).length) = dl_toks (M.length + 1) (M.drop 0) := by
    rw [Nat.zero_add, hdt, List.drop_left, List.drop_zero]
  have hdl3 := congrArg List.length hdt
  rw [List.length_append] at hdl3
  have P := ap_toks hMB (by omega) hdB (by omega) (M.length + 1) k (0 + (wire_vb 9 (M.length : Int)).length) 0 (List.replicate M.length 0) (by omega) (by omega) (by omega) hdt2 (by omega) (by simp)
  unfold dl_apply
  rw [show ((0 : Nat) : Int) = 0 from rfl] at I P
  rw [I, Option.bind_some]
  simp only
  rw [if_neg (by simp), if_neg (by omega), if_neg (by omega), Int.toNat_natCast, P, Option.bind_some]
  simp only
  rw [if_neg (by simp), mix_fk (by omega) (by omega) (by omega), Option.bind_some, hback, mix_fk (by omega) (by omega) (by omega), Option.bind_some, hM, if_pos ⟨rd_bytes hMB, by omega, by omega⟩, ← hMl, hd, eq_f (by omega) (by omega)]
  simp
theorem ap_any {d : List Int} (hd : IsB d) (hl : d.length ≤ 100000) {n : Nat} (hn : n ≤ 4000) : ∀ (f p at_ : Nat) (xs : List Int), p ≤ d.length → at_ ≤ n → xs.length = n → IsB xs → d.length - p < f →
    ∃ xs' e, dl_ap d (n : Int) f (p : Int) (at_ : Int) xs = some (xs', e) ∧ (e ≠ 0 → xs' = []) ∧ (e = 0 → xs'.length = n ∧ IsB xs')
  | 0, p, at_, xs, h1, h2, h3, h4, h5 => by omega
  | f + 1, p, at_, xs, h1, h2, h3, h4, h5 => by
    rw [dl_ap, if_pos ⟨by omega, by omega, by omega, by omega, by omega, by omega⟩]
    by_cases hp : p < d.length
    · rw [if_pos (by omega)]
      obtain ⟨z, p1, e, hI, hz0, hz1, hpe, hpo⟩ := int_any hd hl p h1
      rw [hI, Option.bind_some]
      simp only
      rw [if_neg (by omega)]
      by_cases hq : e = 0 ∧ (n : Int) - at_ < z
      · rw [if_pos hq]
        exact ⟨_, _, rfl, fun _ => rfl, fun h => absurd h (by decide)⟩
      · rw [if_neg hq]
        by_cases he : e = 0
        · subst he
          obtain ⟨q, rfl, hq1, hq2⟩ := hpo rfl
          clear hpo hpe
          have hzn : z ≤ (n : Int) - at_ := by omega
          obtain ⟨t, p2, e2, hT, hto⟩ := text_any hd hl q hq2 ((n : Int) - at_ - z) (by omega)
          rw [hT, Option.bind_some]
          simp only
          by_cases he2 : e2 = 0
          · subst he2
            obtain ⟨q2, lit, rfl, hq3, hq4, rfl, hlB, hll⟩ := hto rfl
            clear hto
            rw [if_neg (by simp), if_pos ⟨by rw [str_size]; omega, trivial⟩, str_size, bytes_str hlB]
            have e1 : (at_ : Int) + z + lit.length = ((at_ + z.toNat + lit.length : Nat) : Int) := by omega
            rw [e1]
            exact ap_any hd hl hn f q2 _ _ hq4 (by omega) (by rw [dl_lay_len]; exact h3) (lay_bytes _ _ _ hlB h4) (by omega)
          · rw [if_pos he2]
            exact ⟨_, _, rfl, fun _ => rfl, fun h => absurd h he2⟩
        · rw [text_err _ _ _ _ he, Option.bind_some]
          simp only
          rw [if_pos he]
          exact ⟨_, _, rfl, fun _ => rfl, fun h => absurd h he⟩
    · rw [if_neg (by omega)]
      exact ⟨_, _, rfl, fun h => absurd rfl h, fun _ => ⟨h3, h4⟩⟩
theorem apply_any {a d : List Int} (ha : IsB a) (hd : IsB d) (hal : a.length ≤ 3000) (hdl : d.length ≤ 3000) {k : Nat} (hk : 10000 ≤ k) :
    ∃ y e, dl_apply k a d 3000 = some (y, e) ∧ (e ≠ 0 → y = []) ∧ (e = 0 → IsB y ∧ y.length ≤ 3000 ∧ dl_diff (dl_mix a y) y.length = d) := by
  obtain ⟨z, p1, e, hI, hz0, hz1, hpe, hpo⟩ := int_any hd (by omega) 0 (by omega)
  unfold dl_apply
  rw [show ((0 : Nat) : Int) = 0 from rfl] at hI
  rw [hI, Option.bind_some]
  simp only
  by_cases he : e = 0
  · subst he
    obtain ⟨q, rfl, hq1, hq2⟩ := hpo rfl
    clear hpo hpe
    rw [if_neg (by simp)]
    by_cases hm : 3000 < z
    · rw [if_pos hm]
      exact ⟨_, _, rfl, fun _ => rfl, fun h => absurd h (by decide)⟩
    · rw [if_neg hm, if_neg (by omega)]
      obtain ⟨n, rfl⟩ := Int.eq_ofNat_of_zero_le hz0
      rw [Int.toNat_natCast]
      obtain ⟨xs, e2, hA, hA1, hA2⟩ := ap_any hd (by omega) (n := n) (by omega) k q 0 (List.replicate n 0) hq2 (by omega) (by rw [List.length_replicate]) (bytes_repl n) (by omega)
      rw [show ((0 : Nat) : Int) = 0 from rfl] at hA
      rw [hA, Option.bind_some]
      simp only
      by_cases he2 : e2 = 0
      · subst he2
        obtain ⟨hxl, hxB⟩ := hA2 rfl
        have hyB := dl_mix_isB ha hxB
        have hyl := dl_mix_len a xs
        rw [if_neg (by simp), mix_fk (by omega) (by omega) (by omega), Option.bind_some]
        obtain ⟨y, hy⟩ : ∃ y, dl_mix a xs = y := ⟨_, rfl⟩
        rw [hy] at hyB hyl ⊢
        rw [mix_fk (by omega) (by omega) (by omega), Option.bind_some]
        have hMB := dl_mix_isB ha hyB
        have hMl := dl_mix_len a y
        rw [if_pos ⟨rd_bytes hMB, by omega, by omega⟩]
        have hdd := dl_diff_len (dl_mix a y) (by omega)
        rw [hMl] at hdd
        rw [eq_f (by omega) (by omega), Option.bind_some]
        by_cases hq : dl_diff (dl_mix a y) y.length = d
        · rw [if_pos (by simpa using hq)]
          exact ⟨_, _, rfl, fun h => absurd rfl h, fun _ => ⟨hyB, by omega, hq⟩⟩
        · rw [if_neg (by simpa using hq)]
          exact ⟨_, _, rfl, fun _ => rfl, fun h => absurd h (by decide)⟩
      · rw [if_pos he2]
        exact ⟨_, _, rfl, fun _ => rfl, fun h => absurd h he2⟩
  · rw [if_pos he]
    exact ⟨_, _, rfl, fun _ => rfl, fun h => absurd h he⟩
end Go.Proofs.Ytocadookdkmahaa.PDl
