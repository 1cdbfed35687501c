/- LZ: what is packed comes back; how long it may be. No program in sight. -/
import Derived.Test.YtigcgdhihaibbaaDoorZQ
import Derived.Test.YtigcgdhihaibbaaDoorZW
namespace Go.Proofs.YtigcgdhihaibbaaDoor.PLz
open Go.RowKit Go.Proofs.YtigcgdhihaibbaaDoorW.PrintWords Go.Proofs.YtigcgdhihaibbaaDoorW.PrintLast
set_option linter.unusedVariables false
theorem lb_getD_mid (pre : List Int) (x : Int) (t : List Int) : (pre ++ x :: t).getD pre.length 0 = x := by
  simp [List.getD_eq_getElem?_getD]
theorem lb_vr_vb (k : Nat) : ∀ (pre rest : List Int) (i : Nat) (n m : Int), pre.length = i → i + k = 9 → 0 ≤ m → m < 2 * 128 ^ k → (0 < i → m ≠ 0) →
    wire_vr (pre ++ (wire_vb k m ++ rest)) (k + 1) i n = (n + m * 128 ^ i, (i : Int) + (wire_vb k m).length, 0) := by
  induction k with
  | zero =>
    intro pre rest i n m hp hi h0 h1 hne
    have hm : m = 1 := by have := hne (by omega); simp at h1; omega
    subst hm
    subst hp
    have hg : (pre ++ (wire_vb 0 1 ++ rest)).getD pre.length 0 = 1 := lb_getD_mid pre 1 rest
    rw [wire_vr, if_neg (by simp [wire_vb]), hg, if_neg (by omega), if_pos (by decide)]
    simp [wire_vb]
  | succ k ih =>
    intro pre rest i n m hp hi h0 h1 hne
    by_cases hm : 128 ≤ m
    · have e : wire_vb (k + 1) m = (m % 128 + 128) :: wire_vb k (m / 128) := by rw [wire_vb, if_pos hm]
      rw [e]
      have hg : (pre ++ ((m % 128 + 128) :: wire_vb k (m / 128) ++ rest)).getD i 0 = m % 128 + 128 := by
        rw [← hp]; exact lb_getD_mid pre _ _
      rw [wire_vr, if_neg (by simp; omega), hg, if_neg (by omega), if_neg (by omega)]
      have hp2 : (128 : Int) ^ (k + 1) = 128 * 128 ^ k := by rw [Int.pow_succ]; omega
      have := ih (pre ++ [m % 128 + 128]) rest (i + 1) (n + (m % 128 + 128 - 128) * 128 ^ i) (m / 128) (by simp [hp]) (by omega) (by omega) (by omega) (by omega)
      rw [List.append_assoc] at this
      have e2 : pre ++ ((m % 128 + 128) :: wire_vb k (m / 128) ++ rest) = pre ++ ([m % 128 + 128] ++ (wire_vb k (m / 128) ++ rest)) := by simp
      rw [e2, this]
      have e3 : m * (128 : Int) ^ i = (m % 128) * 128 ^ i + (m / 128) * 128 ^ (i + 1) := by
        rw [Int.pow_succ, ← Int.mul_assoc, Int.mul_right_comm, ← Int.add_mul]
        congr 1
        omega
      rw [e3]
      simp
      omega
    · have e : wire_vb (k + 1) m = [m] := by rw [wire_vb, if_neg hm, show m % 256 = m by omega]
      rw [e]
      have hg : (pre ++ ([m] ++ rest)).getD i 0 = m := by rw [← hp]; exact lb_getD_mid pre _ _
      rw [wire_vr, if_neg (by simp; omega), hg, if_neg (by omega), if_pos (by omega)]
      simp
theorem lb_vr_put (a : Int) (rest : List Int) (h : 0 ≤ a ∧ a < 18446744073709551616) : wire_vr (wire_vb 9 a ++ rest) 10 0 0 = (a, ((wire_vb 9 a).length : Int), 0) := by
  have := lb_vr_vb 9 [] rest 0 0 a rfl rfl h.1 (by have : (2 : Int) * 128 ^ 9 = 18446744073709551616 := by decide
                                                   omega) (by omega)
  simpa using this
theorem lb_vb_bytes : ∀ (k : Nat) (n : Int), 0 ≤ n → IsB (wire_vb k n)
  | 0, n, h => by intro x hx; rw [wire_vb] at hx; simp at hx; subst hx; omega
  | k + 1, n, h => by
    rw [wire_vb]
    split
    · intro x hx
      rcases List.mem_cons.1 hx with rfl | hx
      · omega
      · exact lb_vb_bytes k _ (by omega) x hx
    · intro x hx; simp at hx; subst hx; omega
/-- reading tokens with fuel enough -/
def UnOK (M : Int) (T out : List Int) (R : List Int × Int) : Prop := ∀ f, T.length < f → lz_unF M f T out = R
theorem un_nil (M : Int) (out : List Int) : UnOK M [] out (out, 0) := by
  intro f hf
  cases f with
  | zero => simp at hf
  | succ f => rw [lz_unF, if_pos rfl]
theorem un_run {M : Int} {T out ll : List Int} {R : List Int × Int} (h1 : 1 ≤ ll.length) (h2 : ll.length ≤ 64) (h : (out.length : Int) + ll.length ≤ M → UnOK M T (out ++ ll) R) (h6 : M < (out.length : Int) + ll.length → R = ([], 6)) :
    UnOK M ((2 * ((ll.length : Int) - 1)) :: ll ++ T) out R := by
  intro f hf
  cases f with
  | zero => simp at hf
  | succ f =>
    have e1 : ((2 * ((ll.length : Int) - 1)) :: ll ++ T).headD 0 = 2 * ((ll.length : Int) - 1) := rfl
    have e2 : ((2 * ((ll.length : Int) - 1)) :: ll ++ T).tail = ll ++ T := rfl
    have e3 : 2 * ((ll.length : Int) - 1) / 2 + 1 = ll.length := by omega
    rw [lz_unF, if_neg (by simp), e1, e2, if_neg (by omega), if_pos (by omega), e3]
    by_cases hM : M < (out.length : Int) + ll.length
    · rw [if_pos hM, h6 hM]
    · have e4 : (ll ++ T).drop ((ll.length : Int)).toNat = T := by simp
      have e5 : (ll ++ T).take ((ll.length : Int)).toNat = ll := by simp
      rw [if_neg hM, if_neg (by simp; omega), e4, e5]
      exact h (by omega) f (by simp at hf; omega)
theorem un_match {M : Int} {T out : List Int} {R : List Int × Int} {n far : Nat} (h1 : 3 ≤ n) (h2 : n ≤ 66) (hf1 : far < 4096) (hf2 : far < out.length) (h : (out.length : Int) + n ≤ M → UnOK M T (lz_copy far n out) R) (h6 : M < (out.length : Int) + n → R = ([], 6)) :
    UnOK M ((2 * ((n : Int) - 3) + 1) :: (wire_vb 9 (far : Int) ++ T)) out R := by
  intro f hf
  cases f with
  | zero => simp at hf
  | succ f =>
    have e1 : ((2 * ((n : Int) - 3) + 1) :: (wire_vb 9 (far : Int) ++ T)).headD 0 = 2 * ((n : Int) - 3) + 1 := rfl
    have e2 : ((2 * ((n : Int) - 3) + 1) :: (wire_vb 9 (far : Int) ++ T)).tail = wire_vb 9 (far : Int) ++ T := rfl
    have e3 : (2 * ((n : Int) - 3) + 1) / 2 + 3 = n := by omega
    have ev := lb_vr_put (far : Int) T (by omega)
    rw [lz_unF, if_neg (by simp), e1, e2, if_neg (by omega), if_neg (by omega), ev, e3]
    rw [if_neg (by simp), if_neg (by simp only; omega), if_neg (by simp only; omega)]
    by_cases hM : M < (out.length : Int) + n
    · rw [if_pos hM, h6 hM]
    · have e4 : (wire_vb 9 (far : Int) ++ T).drop (((wire_vb 9 (far : Int)).length : Int)).toNat = T := by simp
      rw [if_neg hM]
      simp only []
      rw [e4]
      exact h (by omega) f (by simp at hf; omega)
theorem un_lits {M : Int} {T : List Int} {R : List Int × Int} : ∀ (f : Nat) (l out : List Int), l.length ≤ f → (out.length : Int) ≤ M → ((out.length : Int) + l.length ≤ M → UnOK M T (out ++ l) R) → (M < (out.length : Int) + l.length → R = ([], 6)) →
    UnOK M (lz_run f l ++ T) out R := by
  intro f
  induction f with
  | zero =>
    intro l out hl ho h h6
    obtain rfl : l = [] := List.length_eq_zero_iff.1 (by omega)
    simpa [lz_run] using h (by simpa using ho)
  | succ f ih =>
    intro l out hl ho h h6
    rw [lz_run]
    split
    · rename_i h64
      have hlen : (l.take 64).length = 64 := by rw [List.length_take]; omega
      have := un_run (M := M) (T := lz_run f (l.drop 64) ++ T) (out := out) (ll := l.take 64) (R := R) (by omega) (by omega) (fun hM => ih (l.drop 64) _ (by simp; omega) (by rw [List.length_append]; omega) (fun h2 => by
        rw [List.append_assoc, List.take_append_drop]
        refine h ?_
        simp at h2; omega) (fun h2 => h6 (by simp at h2; omega))) (fun hM => h6 (by omega))
      rw [hlen] at this
      simpa using this
    · split
      · rename_i hnil
        subst hnil
        simpa using h (by simpa using ho)
      · rename_i hne
        have : 1 ≤ l.length := by
          cases l with
          | nil => exact absurd rfl hne
          | cons x l => simp
        exact un_run this (by omega) h h6
theorem lb_getD_take (b : List Int) (i j : Nat) (h : i < j) : (b.take j).getD i 0 = b.getD i 0 := by
  rw [List.getD_eq_getElem?_getD, List.getElem?_take_of_lt h, ← List.getD_eq_getElem?_getD]
theorem lb_take_next (b : List Int) (i : Nat) (h : i < b.length) : b.take i ++ [b.getD i 0] = b.take (i + 1) := by
  rw [List.getD_eq_getElem?_getD, List.getElem?_eq_getElem h]
  exact List.take_append_getElem h
theorem lb_copy {b : List Int} {q at_ n : Nat} (hq : q < at_) (hn : at_ + n ≤ b.length) (he : ∀ i, i < n → b.getD (q + i) 0 = b.getD (at_ + i) 0) : ∀ (m k : Nat), k + m = n → lz_copy (at_ - q - 1) m (b.take (at_ + k)) = b.take (at_ + n)
  | 0, k, h => by rw [lz_copy, show at_ + k = at_ + n by omega]
  | m + 1, k, h => by
    have hl : (b.take (at_ + k)).length = at_ + k := by rw [List.length_take]; omega
    rw [lz_copy, hl, show at_ + k - 1 - (at_ - q - 1) = q + k by omega, lb_getD_take b _ _ (by omega), he k (by omega), lb_take_next b _ (by omega)]
    exact lb_copy hq hn he m (k + 1) (by omega)
theorem pack_app (b : List Int) : ∀ (f at_ plain : Nat) (out : List Int), lz_packF b f at_ plain out = out ++ lz_packF b f at_ plain []
  | 0, at_, plain, out => by simp [lz_packF]
  | f + 1, at_, plain, out => by
    rw [lz_packF, lz_packF]
    split
    · split
      · exact pack_app b f _ _ _
      · rw [pack_app b f _ _ (out ++ _ ++ _ ++ _), pack_app b f _ _ ([] ++ _ ++ _ ++ _)]
        simp
    · simp
theorem lb_cut (b : List Int) (i j : Nat) (h : i ≤ j) : b.take i ++ lz_cut b i j = b.take j := by
  unfold lz_cut
  have := List.take_add (l := b) (i := i) (j := j - i)
  rw [show i + (j - i) = j by omega] at this
  exact this.symm
theorem lb_cut_len (b : List Int) (i j : Nat) (h : i ≤ j) (hj : j ≤ b.length) : (lz_cut b i j).length = j - i := by
  unfold lz_cut
  rw [List.length_take, List.length_drop]; omega
/-- what is read of a row's bytes with a limit -/
def lb_res (M : Int) (b : List Int) : List Int × Int := if (b.length : Int) ≤ M then (b, 0) else ([], 6)
theorem lb_tail {b : List Int} {M : Int} : ∀ (f at_ plain : Nat), plain ≤ at_ → at_ ≤ b.length → b.length < at_ + f → (plain : Int) ≤ M → UnOK M (lz_packF b f at_ plain []) (b.take plain) (lb_res M b) := by
  intro f
  induction f with
  | zero => intro at_ plain h1 h2 h3; omega
  | succ f ih =>
    intro at_ plain h1 h2 h3 hM
    have hpl : (b.take plain).length = plain := by rw [List.length_take]; omega
    have hcl := lb_cut_len b plain at_ h1 h2
    rw [lz_packF]
    split
    · rename_i hlt
      split
      · exact ih _ _ (by omega) (by omega) (by omega) hM
      · rename_i hne
        rw [pack_app]
        obtain ⟨q, n, hqn⟩ : ∃ q n, lz_best b at_ = (q, n) := ⟨_, _, rfl⟩
        have hb := lz_best_ok b at_
        rw [hqn] at hb hne ⊢
        simp only at hb hne ⊢
        obtain ⟨b1, b2, b3, b4, b5, b6, b7⟩ := hb.resolve_left hne
        have hfar : ((at_ : Int) - q - 1) = ((at_ - q - 1 : Nat) : Int) := by omega
        rw [hfar]
        have e : [] ++ lz_run b.length (lz_cut b plain at_) ++ [2 * ((n : Int) - 3) + 1] ++ wire_vb 9 ((at_ - q - 1 : Nat) : Int) ++ lz_packF b f (at_ + n) (at_ + n) [] = lz_run b.length (lz_cut b plain at_) ++ ((2 * ((n : Int) - 3) + 1) :: (wire_vb 9 ((at_ - q - 1 : Nat) : Int) ++ lz_packF b f (at_ + n) (at_ + n) [])) := by simp
        rw [e]
        have hal : (b.take at_).length = at_ := by rw [List.length_take]; omega
        refine un_lits _ _ _ (by omega) (by omega) (fun h => ?_) (fun h => ?_)
        · rw [lb_cut b plain at_ h1]
          rw [hpl, hcl] at h
          refine un_match b2 b3 (by omega) (by omega) (fun h' => ?_) (fun h' => ?_)
          · have hc := lb_copy (k := 0) (m := n) b1 b4 b7 (by omega)
            rw [Nat.add_zero] at hc
            rw [hc]
            exact ih _ _ (by omega) (by omega) (by omega) (by omega)
          · unfold lb_res
            rw [if_neg (by omega)]
        · unfold lb_res
          rw [if_neg (by omega)]
    · obtain rfl : at_ = b.length := by omega
      have := un_lits (M := M) (T := []) (R := lb_res M b) b.length (lz_cut b plain b.length) (b.take plain) (by omega) (by omega) (fun h => by
        rw [lb_cut b plain _ h1, List.take_length]
        have h' : (b.length : Int) ≤ M := by omega
        unfold lb_res
        rw [if_pos h']
        exact un_nil M b) (fun h => by unfold lb_res; rw [if_neg (by omega)])
      simpa using this
theorem lb_back (b : List Int) (M : Int) (hM : 0 ≤ M) : lz_unF M ((lz_pack b).length + 1) (lz_pack b) [] = lb_res M b :=
  lb_tail (b := b) (M := M) (b.length + 1) 0 0 (by omega) (by omega) (by omega) (by omega) _ (by unfold lz_pack; omega)
/-! how long it may be -/
theorem run_len : ∀ (f : Nat) (l : List Int), l.length ≤ f → 64 * (lz_run f l).length ≤ 65 * l.length + 63 ∧ (l = [] → lz_run f l = []) := by
  intro f
  induction f with
  | zero => intro l hl; rw [lz_run]; exact ⟨by simp, fun _ => rfl⟩
  | succ f ih =>
    intro l hl
    rw [lz_run]
    split
    · rename_i h
      have := (ih (l.drop 64) (by simp; omega)).1
      simp only [List.length_append, List.length_cons, List.length_take, List.length_drop] at this ⊢
      exact ⟨by omega, fun e => by subst e; simp at h⟩
    · split
      · exact ⟨by simp, fun _ => rfl⟩
      · rename_i hne
        refine ⟨?_, fun e => absurd e hne⟩
        have : 1 ≤ l.length := by
          cases l with
          | nil => exact absurd rfl hne
          | cons x l => simp
        simp only [List.length_cons]
        omega
theorem vb_small (n : Int) (h : n < 128) (k : Nat) : (wire_vb (k + 1) n).length = 1 := by rw [wire_vb, if_neg (by omega)]; rfl
theorem vb_two (n : Int) (h : n < 4096) (k : Nat) : (wire_vb (k + 2) n).length ≤ 2 := by
  rw [wire_vb]
  split
  · rw [List.length_cons, vb_small _ (by omega)]; decide
  · simp
theorem lb_tail_len {b : List Int} : ∀ (f at_ plain : Nat), plain ≤ at_ → at_ ≤ b.length → b.length < at_ + f → 64 * (lz_packF b f at_ plain []).length ≤ 65 * (b.length - plain) + 63 := by
  intro f
  induction f with
  | zero => intro at_ plain h1 h2 h3; omega
  | succ f ih =>
    intro at_ plain h1 h2 h3
    have hcl := lb_cut_len b plain at_ h1 h2
    have hr := (run_len b.length (lz_cut b plain at_) (by omega)).1
    rw [lz_packF]
    split
    · rename_i hlt
      split
      · exact ih _ _ (by omega) (by omega) (by omega)
      · rename_i hne
        rw [pack_app]
        obtain ⟨q, n, hqn⟩ : ∃ q n, lz_best b at_ = (q, n) := ⟨_, _, rfl⟩
        have hb := lz_best_ok b at_
        rw [hqn] at hb hne ⊢
        simp only at hb hne ⊢
        obtain ⟨b1, b2, b3, b4, b5, b6, b7⟩ := hb.resolve_left hne
        have := ih (at_ + n) (at_ + n) (by omega) (by omega) (by omega)
        simp only [List.length_append, List.length_cons, List.length_nil]
        have hv : 63 + 64 * (1 + (wire_vb 9 ((at_ : Int) - q - 1)).length) ≤ 65 * n := by
          rcases b6 with h | h
          · have := vb_two ((at_ : Int) - q - 1) (by omega) 7
            simp only [Nat.reduceAdd] at this
            omega
          · have := vb_small ((at_ : Int) - q - 1) (by omega) 8
            simp only [Nat.reduceAdd] at this
            omega
        omega
    · have e : [] ++ lz_run b.length (lz_cut b plain at_) = lz_run b.length (lz_cut b plain at_) := rfl
      rw [e]
      omega
theorem lb_len (b : List Int) : (lz_pack b).length ≤ b.length + b.length / 64 + 1 := by
  have := lb_tail_len (b := b) (b.length + 1) 0 0 (by omega) (by omega) (by omega)
  unfold lz_pack
  omega
theorem lb_nil : lz_pack [] = [] := rfl
/-! its bytes -/
theorem run_bytes : ∀ (f : Nat) (l : List Int), IsB l → IsB (lz_run f l) := by
  intro f
  induction f with
  | zero => intro l hl; exact isB_nil
  | succ f ih =>
    intro l hl
    rw [lz_run]
    split
    · refine isB_app (fun x hx => ?_) (ih _ (isB_drop hl 64))
      rcases List.mem_cons.1 hx with rfl | hx
      · decide
      · exact isB_take hl 64 x hx
    · split
      · exact isB_nil
      · rename_i h1 h2
        have : 1 ≤ l.length := by
          cases l with
          | nil => exact absurd rfl h2
          | cons x l => simp
        intro x hx
        rcases List.mem_cons.1 hx with rfl | hx
        · omega
        · exact hl x hx
theorem lb_bytes {b : List Int} (hb : IsB b) : ∀ (f at_ plain : Nat) (out : List Int), IsB out → IsB (lz_packF b f at_ plain out) := by
  intro f
  induction f with
  | zero => intro at_ plain out h; exact h
  | succ f ih =>
    intro at_ plain out h
    have hc : IsB (lz_cut b plain at_) := isB_take (isB_drop hb _) _
    rw [lz_packF]
    split
    · split
      · exact ih _ _ _ h
      · rename_i hne
        have hB := lz_best_ok b at_
        obtain ⟨b1, b2, b3, b4, b5, b6, b7⟩ := hB.resolve_left hne
        refine ih _ _ _ (isB_app (isB_app (isB_app h (run_bytes _ _ hc)) ?_) (lb_vb_bytes _ _ (by omega)))
        intro x hx
        simp only [List.mem_singleton] at hx
        subst hx
        omega
    · exact isB_app h (run_bytes _ _ hc)
theorem lb_isB {b : List Int} (hb : IsB b) : IsB (lz_pack b) := lb_bytes hb _ _ _ _ isB_nil
/-! zeros -/
theorem z_get (n i : Nat) : (List.replicate n (0 : Int)).getD i 0 = 0 := by
  rw [List.getD_eq_getElem?_getD]
  by_cases h : i < n
  · simp [h]
  · simp [h]
theorem z_same {n p at_ : Nat} (ha : at_ ≤ n) : ∀ (f k : Nat), f + k = 67 → k ≤ 66 → at_ + k ≤ n → lz_same (List.replicate n 0) p at_ f k = min 66 (n - at_) := by
  intro f
  induction f with
  | zero => intro k h1 h2 h3; omega
  | succ f ih =>
    intro k h1 h2 h3
    by_cases hc : k < 66 ∧ at_ + k < n
    · rw [lz_same_next ⟨hc.1, by rw [List.length_replicate]; exact hc.2, by rw [z_get, z_get]⟩]
      exact ih (k + 1) (by omega) (by omega) (by omega)
    · rw [lz_same_stop (fun h => hc ⟨h.1, by have := h.2.1; rw [List.length_replicate] at this; exact this⟩)]
      omega
theorem z_bestF {n at_ : Nat} {l : List Nat} (ha : at_ ≤ n) (q : Nat) : ∀ i, lz_bestF (List.replicate n 0) at_ l i q (min 66 (n - at_)) = (q, min 66 (n - at_))
  | 0 => rfl
  | i + 1 => by
    rw [lz_bestF]
    split
    · rfl
    · rw [z_same ha 67 0 rfl (by omega) (by omega), if_neg (by omega)]
      exact z_bestF ha q i
theorem z_best {n at_ : Nat} (h1 : 1 ≤ at_) (h3 : at_ + 3 ≤ n) : lz_best (List.replicate n 0) at_ = (at_ - 1, min 66 (n - at_)) := by
  have hposs : lz_poss (List.replicate n 0) at_ (lz_key (List.replicate n 0) at_) = List.range at_ := by
    unfold lz_poss
    refine List.filter_eq_self.2 fun i hi => ?_
    have := List.mem_range.1 hi
    unfold lz_key
    simp only [z_get, List.length_replicate]
    simp
    omega
  obtain ⟨k, rfl⟩ : ∃ k, at_ = k + 1 := ⟨at_ - 1, by omega⟩
  unfold lz_best
  rw [if_pos (by rw [List.length_replicate]; exact h3), hposs, List.length_range, lz_bestF]
  have hg : (List.range (k + 1)).getD k 0 = k := by simp [List.getD_eq_getElem?_getD]
  rw [hg, List.length_range, if_neg (by omega), z_same (by omega) 67 0 rfl (by omega) (by omega), if_pos ⟨by omega, .inr (by omega)⟩]
  exact z_bestF (by omega) k k
theorem z_none {b : List Int} {at_ : Nat} (h : b.length < at_ + 3) : (lz_best b at_).2 = 0 := by
  unfold lz_best
  rw [if_neg (by omega)]
theorem z_end {b : List Int} : ∀ (f at_ plain : Nat), plain ≤ at_ → at_ ≤ b.length → b.length < at_ + 3 → b.length < at_ + f → lz_packF b f at_ plain [] = lz_run b.length (lz_cut b plain b.length) := by
  intro f
  induction f with
  | zero => intro at_ plain h1 h2 h3 h4; omega
  | succ f ih =>
    intro at_ plain h1 h2 h3 h4
    rw [lz_packF]
    split
    · rw [if_pos (z_none h3)]
      exact ih _ _ (by omega) (by omega) (by omega) (by omega)
    · rw [show at_ = b.length by omega]
      rfl
theorem z_end_len {b : List Int} (f at_ plain : Nat) (h1 : plain ≤ at_) (h2 : at_ ≤ b.length) (h3 : b.length < at_ + 3) (h4 : b.length < at_ + f) : 64 * (lz_packF b f at_ plain []).length ≤ 65 * (b.length - plain) + 63 ∧ (plain = b.length → (lz_packF b f at_ plain []).length = 0) := by
  rw [z_end f at_ plain h1 h2 h3 h4]
  have hc := lb_cut_len b plain b.length (by omega) (by omega)
  have hr := run_len b.length (lz_cut b plain b.length) (by omega)
  refine ⟨by rw [hc] at hr; exact hr.1, fun e => ?_⟩
  rw [hr.2 (List.length_eq_zero_iff.1 (by omega))]
  rfl
theorem z_take {b : List Int} {f at_ plain q n : Nat} (hlt : at_ < b.length) (hq : lz_best b at_ = (q, n)) (hn : n ≠ 0) (hpl : plain ≤ at_) (hd : at_ - q = 1) (hqa : q < at_) :
    64 * (lz_packF b (f + 1) at_ plain []).length ≤ 65 * (at_ - plain) + 63 + 64 * (2 + (lz_packF b f (at_ + n) (at_ + n) []).length) ∧ (plain = at_ → (lz_packF b (f + 1) at_ plain []).length = 2 + (lz_packF b f (at_ + n) (at_ + n) []).length) := by
  have hc := lb_cut_len b plain at_ hpl (by omega)
  have hr := run_len b.length (lz_cut b plain at_) (by omega)
  have hv := vb_small ((at_ : Int) - q - 1) (by omega) 8
  simp only [Nat.reduceAdd] at hv
  rw [lz_packF, if_pos hlt, hq, if_neg (by simpa using hn), pack_app]
  simp only [List.length_append, List.length_cons, List.length_nil, hv]
  refine ⟨by omega, fun e => ?_⟩
  rw [hr.2 (List.length_eq_zero_iff.1 (by omega))]
  simp
theorem z_tail (n : Nat) : ∀ (f at_ : Nat), 1 ≤ at_ → at_ ≤ n → n < at_ + f → (lz_packF (List.replicate n 0) f at_ at_ []).length ≤ 2 * ((n - at_) / 66) + 3 ∧ (at_ = n → (lz_packF (List.replicate n 0) f at_ at_ []).length = 0) := by
  intro f
  induction f with
  | zero => intro at_ h1 h2 h3; omega
  | succ f ih =>
    intro at_ h1 h2 h3
    have hl : (List.replicate n (0 : Int)).length = n := List.length_replicate
    by_cases h : at_ + 3 ≤ n
    · have ht := (z_take (f := f) (plain := at_) (by rw [hl]; omega) (z_best h1 h) (by omega) (Nat.le_refl _) (by omega) (by omega)).2 rfl
      have hi := ih (at_ + min 66 (n - at_)) (by omega) (by omega) (by omega)
      refine ⟨?_, fun e => by omega⟩
      rw [ht]
      by_cases h66 : n - at_ ≤ 66
      · rw [hi.2 (by omega)]; omega
      · have := hi.1
        rw [show min 66 (n - at_) = 66 by omega] at this ⊢
        omega
    · have := z_end_len (b := List.replicate n 0) (f + 1) at_ at_ (Nat.le_refl _) (by rw [hl]; omega) (by rw [hl]; omega) (by rw [hl]; omega)
      rw [hl] at this
      exact ⟨by omega, fun e => this.2 e⟩
theorem lb_zeros (n : Nat) : (lz_pack (List.replicate n 0)).length ≤ 2 + 2 * (n / 66 + 1) + 2 := by
  have hl : (List.replicate n (0 : Int)).length = n := List.length_replicate
  unfold lz_pack
  rw [hl]
  by_cases h0 : n = 0
  · subst h0
    decide
  · have hb0 : (lz_best (List.replicate n 0) 0).2 = 0 := by
      unfold lz_best
      split
      · rfl
      · rfl
    rw [lz_packF, if_pos (by rw [hl]; omega), if_pos hb0]
    by_cases h4 : 4 ≤ n
    · obtain ⟨f, rfl⟩ : ∃ f, n = f + 1 := ⟨n - 1, by omega⟩
      have ht := (z_take (f := f) (plain := 0) (at_ := 1) (by rw [hl]; omega) (z_best (by omega) (by omega)) (by omega) (by omega) (by omega) (by omega)).1
      have hz := z_tail (f + 1) f (1 + min 66 (f + 1 - 1)) (by omega) (by omega) (by omega)
      by_cases h66 : f ≤ 66
      · rw [hz.2 (by omega)] at ht
        rw [show 0 + 1 = 1 from rfl]
        omega
      · rw [show 1 + min 66 (f + 1 - 1) = 67 by omega] at hz ht
        have := hz.1
        rw [show 0 + 1 = 1 from rfl]
        omega
    · have := (z_end_len (b := List.replicate n 0) n (0 + 1) 0 (by omega) (by rw [hl]; omega) (by rw [hl]; omega) (by rw [hl]; omega)).1
      rw [hl] at this
      omega
end Go.Proofs.YtigcgdhihaibbaaDoor.PLz
