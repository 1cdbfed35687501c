import Derived.Test.YtfdbibddhneklabArM
namespace Go.Proofs.Ytfdbibddhneklab.Arena
open Go.RowKit
set_option linter.unusedVariables false
set_option linter.unusedSimpArgs false
theorem mGet_put (m : List (Int × Value)) (k : Int) (v : Value) (k' : Int) (hn : mGet m k = none) : mGet (m ++ [(k, v)]) k' = if k' = k then some v else mGet m k' := by
  unfold mGet at *
  rw [List.find?_append]
  by_cases h : k' = k
  · subst h
    rw [if_pos rfl]
    simp only [Option.map_eq_none_iff] at hn
    rw [hn]
    simp
  · rw [if_neg h]
    have : (k == k') = false := by simpa using fun e => h e.symm
    cases hf : List.find? (fun p => p.1 == k') m <;> simp [this]
theorem mGet_none {m : List (Int × Value)} {k : Int} : mGet m k = none ↔ ∀ p ∈ m, p.1 ≠ k := by
  unfold mGet
  simp
theorem mDel_sub (m : List (Int × Value)) (k : Int) : ∀ p ∈ mDel m k, p ∈ m := fun p hp => List.mem_of_mem_eraseP hp
theorem mGet_del (m : List (Int × Value)) (k : Int) (hp : m.Pairwise (fun p q => p.1 ≠ q.1)) (k' : Int) : mGet (mDel m k) k' = if k' = k then none else mGet m k' := by
  induction m with
  | nil => simp [mDel, mGet]
  | cons p m ih =>
    rw [List.pairwise_cons] at hp
    obtain ⟨h1, h2⟩ := hp
    by_cases hk : p.1 = k
    · have e : mDel (p :: m) k = m := by simp [mDel, List.eraseP_cons, hk]
      rw [e]
      by_cases h : k' = k
      · rw [if_pos h]
        exact mGet_none.2 (fun q hq he => h1 q hq (by rw [hk, he, h]))
      · rw [if_neg h]
        have : (p.1 == k') = false := by rw [hk]; simpa using fun e => h e.symm
        unfold mGet
        rw [List.find?_cons, this]
    · have hb : (p.1 == k) = false := by simpa using hk
      have e : mDel (p :: m) k = p :: mDel m k := by simp [mDel, List.eraseP_cons, hb]
      rw [e]
      have ih := ih h2
      unfold mGet at ih ⊢
      rw [List.find?_cons, List.find?_cons]
      cases hq : (p.1 == k')
      · exact ih
      · have : p.1 = k' := by simpa using hq
        rw [if_neg (fun e => hk (by rw [this, e]))]
theorem mDel_pair (m : List (Int × Value)) (k : Int) (hp : m.Pairwise (fun p q => p.1 ≠ q.1)) : (mDel m k).Pairwise (fun p q => p.1 ≠ q.1) := hp.sublist (List.eraseP_sublist)
theorem mDel_len (m : List (Int × Value)) (k : Int) : (mDel m k).length = if (mGet m k).isSome then m.length - 1 else m.length := by
  unfold mDel
  cases h : mGet m k with
  | none =>
    rw [List.eraseP_of_forall_not (fun a ha hk => mGet_none.1 h a ha (by simpa using hk))]
    rfl
  | some v =>
    have : ∃ a ∈ m, (a.1 == k) = true := by
      unfold mGet at h
      simp only [Option.map_eq_some_iff] at h
      obtain ⟨a, ha, _⟩ := h
      exact ⟨a, List.mem_of_find?_eq_some ha, by simpa using List.find?_some ha⟩
    obtain ⟨a, ha, hk⟩ := this
    rw [List.length_eraseP_of_mem ha hk]
    rfl
def cntU (L : List Sl) : Nat := (List.range 128).countP (sU L)
theorem ids_cnt (L : List Sl) : (idsL L 128).length = cntU L := by
  unfold idsL cntU
  rw [List.length_map, List.countP_eq_length_filter]
theorem cnt_flip {p q : Nat → Bool} {j : Nat} (hp : p j = false) (hq : q j = true) (he : ∀ i, i ≠ j → p i = q i) (n : Nat) : (List.range n).countP q = (List.range n).countP p + if j < n then 1 else 0 := by
  induction n with
  | zero => simp
  | succ n ih =>
    rw [List.range_succ, List.countP_append, List.countP_append, ih]
    by_cases h : n = j
    · subst h
      simp [hp, hq]
    · simp only [List.countP_singleton, he n h]
      have : (j < n + 1) ↔ (j < n) := by omega
      simp only [this]
      omega
theorem cnt_same {p q : Nat → Bool} (he : ∀ i, p i = q i) (n : Nat) : (List.range n).countP q = (List.range n).countP p := by
  have : p = q := funext he
  rw [this]
theorem s_set {L : List Sl} {j : Nat} (hj : j < L.length) (x g : Int) (u : Bool) (i : Nat) : sX (L.set j (x, g, u)) i = (if i = j then x else sX L i) ∧ sG (L.set j (x, g, u)) i = (if i = j then g else sG L i) ∧ sU (L.set j (x, g, u)) i = (if i = j then u else sU L i) := by
  unfold sX sG sU
  simp only [List.getD_eq_getElem?_getD, List.getElem?_set]
  by_cases h : i = j
  · subst h; simp [hj]
  · rw [if_neg (fun e => h e.symm)]; simp [h]
structure Inv (n : Nat) (L : List Sl) (G I : List (Int × Value)) : Prop where
  len : L.length = 128
  gen : ∀ j, j < 128 → 0 ≤ sG L j ∧ sG L j ≤ n
  giv : ∀ k : Nat, k < 65536 → ∀ v, mGet G (k : Int) = some v → ((k / 128 : Nat) : Int) < sG L (k % 128) ∨ (((k / 128 : Nat) : Int) = sG L (k % 128) ∧ sU L (k % 128) = true)
  cur : ∀ k : Nat, k < 65536 → mGet I (k : Int) = if has L k = true then some (.int .i64 (sX L (k % 128))) else none
  nod : I.Pairwise (fun p q => p.1 ≠ q.1)
  cnt : I.length = cntU L
theorem idOf_eq {n : Nat} {L : List Sl} {j : Nat} (hj : j < 128) (hg : 0 ≤ sG L j ∧ sG L j ≤ n) (hn : n ≤ 300) : idOf L j = (j : Int) + 128 * sG L j := by
  unfold idOf; omega
theorem has_iff {n : Nat} {L : List Sl} (hg : ∀ j, j < 128 → 0 ≤ sG L j ∧ sG L j ≤ n) (hn : n ≤ 300) (k : Nat) : has L k = true ↔ sU L (k % 128) = true ∧ sG L (k % 128) = ((k / 128 : Nat) : Int) := by
  have hm : k % 128 < 128 := Nat.mod_lt _ (by omega)
  unfold has
  rw [idOf_eq hm (hg _ hm) hn, Bool.and_eq_true, beq_iff_eq]
  constructor
  · rintro ⟨h1, h2⟩; exact ⟨h1, by omega⟩
  · rintro ⟨h1, h2⟩; exact ⟨h1, by omega⟩
theorem Inv.init : Inv 0 Z0 [] [] where
  len := Z0_len
  gen := fun j hj => by
    have : sG Z0 j = 0 := by unfold sG Z0; rw [List.getD_eq_getElem?_getD, List.getElem?_replicate]; split <;> rfl
    omega
  giv := fun k hk v h => by simp [mGet] at h
  cur := fun k hk => by
    have : sU Z0 (k % 128) = false := by unfold sU Z0; rw [List.getD_eq_getElem?_getD, List.getElem?_replicate]; split <;> rfl
    simp [mGet, has, this]
  nod := List.Pairwise.nil
  cnt := by decide +kernel
theorem Inv.more {n : Nat} {L : List Sl} {G I : List (Int × Value)} (h : Inv n L G I) : Inv (n + 1) L G I :=
  { h with gen := fun j hj => by have := h.gen j hj; omega }
theorem Inv.drop {n : Nat} {L : List Sl} {G I : List (Int × Value)} (h : Inv n L G I) (hn : n < 300) (k : Nat) (hk : k < 65536) : Inv (n + 1) (dropL L k) G (mDel I (k : Int)) := by
  have hm : k % 128 < 128 := Nat.mod_lt _ (by omega)
  unfold dropL
  cases hh : has L k
  · rw [if_neg (by simp)]
    have hc := h.cur k hk
    rw [hh, if_neg (by simp)] at hc
    have e : mDel I (k : Int) = I := by
      unfold mDel
      exact List.eraseP_of_forall_not (fun a ha hq => mGet_none.1 hc a ha (by simpa using hq))
    rw [e]
    exact h.more
  · rw [if_pos rfl]
    obtain ⟨hu, hg⟩ := (has_iff h.gen (by omega) k).1 hh
    have hj : k % 128 < L.length := by rw [h.len]; exact hm
    obtain ⟨g0, g1⟩ := h.gen _ hm
    have eg : (sG L (k % 128) + 1) % 65536 = sG L (k % 128) + 1 := by omega
    rw [eg]
    have S := s_set hj 0 (sG L (k % 128) + 1) false
    have hgen : ∀ j, j < 128 → 0 ≤ sG (L.set (k % 128) (0, sG L (k % 128) + 1, false)) j ∧ sG (L.set (k % 128) (0, sG L (k % 128) + 1, false)) j ≤ ((n + 1 : Nat) : Int) := fun j hj2 => by
      rw [(S j).2.1]
      have := h.gen j hj2
      split <;> omega
    refine ⟨by rw [List.length_set]; exact h.len, hgen, fun k' hk' v hv => ?_, fun k' hk' => ?_, mDel_pair _ _ h.nod, ?_⟩
    · rw [(S _).2.1, (S _).2.2]
      have := h.giv k' hk' v hv
      by_cases e : k' % 128 = k % 128
      · rw [if_pos e, if_pos e]; rw [e] at this; omega
      · rw [if_neg e, if_neg e]; exact this
    · rw [mGet_del _ _ h.nod]
      by_cases e : k' % 128 = k % 128
      · have hno : ¬ has (L.set (k % 128) (0, sG L (k % 128) + 1, false)) k' = true := by
          intro hc
          have := ((has_iff hgen (by omega) k').1 hc).1
          rw [(S _).2.2, if_pos e] at this
          cases this
        rw [if_neg hno]
        by_cases e2 : k' = k
        · rw [if_pos (by rw [e2])]
        · rw [if_neg (by omega), h.cur k' hk', if_neg]
          intro hc
          obtain ⟨_, h2⟩ := (has_iff h.gen (by omega) k').1 hc
          rw [e, hg] at h2
          omega
      · rw [if_neg (by omega), h.cur k' hk', (S _).1, if_neg e]
        have : has (L.set (k % 128) (0, sG L (k % 128) + 1, false)) k' = has L k' := by
          rw [Bool.eq_iff_iff, has_iff hgen (by omega), has_iff h.gen (by omega), (S _).2.1, (S _).2.2, if_neg e, if_neg e]
        rw [this]
    · have hc := h.cur k hk
      rw [hh, if_pos rfl] at hc
      rw [mDel_len, hc, h.cnt]
      have := cnt_flip (p := sU (L.set (k % 128) (0, sG L (k % 128) + 1, false))) (q := sU L) (j := k % 128) (by rw [(S _).2.2, if_pos rfl]) hu (fun i hi => by rw [(S _).2.2, if_neg hi]) 128
      rw [if_pos hm] at this
      unfold cntU
      simp
      omega
theorem Inv.newid {n : Nat} {L : List Sl} {G I : List (Int × Value)} (h : Inv n L G I) (hn : n ≤ 300) {i : Nat} (hf : firstF L = some i) : i < 128 ∧ sU L i = false ∧ idOf L i = (((i + 128 * (sG L i).toNat : Nat)) : Int) ∧ i + 128 * (sG L i).toNat < 65536 ∧ mGet G (idOf L i) = none ∧ mGet I (idOf L i) = none := by
  unfold firstF at hf
  rw [List.find?_range_eq_some] at hf
  obtain ⟨ha, hi, -⟩ := hf
  have hi := List.mem_range.1 hi
  unfold addable at ha
  simp only [Bool.and_eq_true, Bool.not_eq_true', decide_eq_true_eq] at ha
  obtain ⟨hu, _⟩ := ha
  obtain ⟨g0, g1⟩ := h.gen i hi
  have e : idOf L i = (((i + 128 * (sG L i).toNat : Nat)) : Int) := by rw [idOf_eq hi (h.gen i hi) hn]; omega
  have hlt : i + 128 * (sG L i).toNat < 65536 := by omega
  have hmod : (i + 128 * (sG L i).toNat) % 128 = i := by omega
  have hdiv : (i + 128 * (sG L i).toNat) / 128 = (sG L i).toNat := by omega
  refine ⟨hi, hu, e, hlt, ?_, ?_⟩
  · rw [e]
    cases hg : mGet G (((i + 128 * (sG L i).toNat : Nat)) : Int) with
    | none => rfl
    | some v =>
      have := h.giv _ hlt v hg
      rw [hmod, hdiv, hu] at this
      simp at this
      omega
  · rw [e, h.cur _ hlt, if_neg]
    intro hc
    have := ((has_iff h.gen hn _).1 hc).1
    rw [hmod, hu] at this
    cases this
theorem Inv.add {n : Nat} {L : List Sl} {G I : List (Int × Value)} (h : Inv n L G I) (hn : n < 300) {i : Nat} (hf : firstF L = some i) (x : Int) (v : Value) : Inv (n + 1) (addL L x) (G ++ [(addId L, v)]) (I ++ [(addId L, .int .i64 x)]) := by
  obtain ⟨hi, hu, he, hlt, hG, hI⟩ := h.newid (by omega) hf
  have e1 : addL L x = L.set i (x, sG L i, true) := by unfold addL; rw [hf]
  have e2 : addId L = idOf L i := by unfold addId; rw [hf]
  rw [e1, e2]
  have hj : i < L.length := by rw [h.len]; exact hi
  obtain ⟨g0, g1⟩ := h.gen i hi
  have S := s_set hj x (sG L i) true
  have hgen : ∀ j, j < 128 → 0 ≤ sG (L.set i (x, sG L i, true)) j ∧ sG (L.set i (x, sG L i, true)) j ≤ ((n + 1 : Nat) : Int) := fun j hj2 => by
    rw [(S j).2.1]
    have := h.gen j hj2
    split <;> omega
  have hmod : (i + 128 * (sG L i).toNat) % 128 = i := by omega
  have hdiv : (i + 128 * (sG L i).toNat) / 128 = (sG L i).toNat := by omega
  refine ⟨by rw [List.length_set]; exact h.len, hgen, fun k hk v' hv => ?_, fun k hk => ?_, ?_, ?_⟩
  · rw [mGet_put _ _ _ _ hG] at hv
    rw [(S _).2.1, (S _).2.2]
    by_cases ek : (k : Int) = idOf L i
    · have : k = i + 128 * (sG L i).toNat := by omega
      subst this
      rw [hmod, hdiv, if_pos rfl, if_pos rfl]
      right
      exact ⟨by omega, rfl⟩
    · rw [if_neg ek] at hv
      have := h.giv k hk v' hv
      by_cases e : k % 128 = i
      · rw [if_pos e, if_pos e]; rw [e] at this; rw [hu] at this; simp at this; left; exact this
      · rw [if_neg e, if_neg e]; exact this
  · rw [mGet_put _ _ _ _ hI, (S _).1]
    have hi2 := has_iff hgen (by omega) k
    rw [(S _).2.1, (S _).2.2] at hi2
    by_cases ek : (k : Int) = idOf L i
    · have : k = i + 128 * (sG L i).toNat := by omega
      subst this
      rw [hmod, hdiv, if_pos rfl, if_pos rfl] at hi2
      rw [if_pos ek, if_pos (hi2.2 ⟨rfl, by omega⟩), hmod, if_pos rfl]
    · rw [if_neg ek, h.cur k hk]
      have hi1 := has_iff h.gen (by omega) k
      by_cases e : k % 128 = i
      · rw [if_pos e, if_pos e] at hi2
        rw [e] at hi1
        rw [if_neg (fun hc => by have := (hi1.1 hc).1; rw [hu] at this; cases this), if_neg (fun hc => by have := (hi2.1 hc).2; omega)]
      · rw [if_neg e, if_neg e] at hi2
        rw [if_neg e]
        have : has (L.set i (x, sG L i, true)) k = has L k := by rw [Bool.eq_iff_iff, hi2, hi1]
        rw [this]
  · rw [List.pairwise_append]
    exact ⟨h.nod, List.pairwise_singleton _ _, fun a ha b hb => by rw [List.mem_singleton.1 hb]; exact mGet_none.1 hI a ha⟩
  · have := cnt_flip (p := sU L) (q := sU (L.set i (x, sG L i, true))) (j := i) hu (by rw [(S _).2.2, if_pos rfl]) (fun j hj2 => by rw [(S _).2.2, if_neg hj2]) 128
    rw [if_pos hi] at this
    rw [List.length_append, h.cnt, List.length_singleton]
    unfold cntU
    omega
theorem Inv.full {n : Nat} {L : List Sl} {G I : List (Int × Value)} (h : Inv n L G I) (hn : n ≤ 300) (hf : firstF L = none) : I.length = 128 := by
  rw [h.cnt]
  unfold firstF at hf
  rw [List.find?_eq_none] at hf
  unfold cntU
  have : (List.range 128).countP (sU L) = (List.range 128).length := by
    rw [List.countP_eq_length]
    intro a ha
    have h1 := hf a ha
    have h2 := h.gen a (List.mem_range.1 ha)
    unfold addable at h1
    simp only [Bool.and_eq_true, Bool.not_eq_true', decide_eq_true_eq, not_and] at h1
    cases hu : sU L a
    · exact absurd (by omega) (h1 hu)
    · rfl
  rw [this]
  simp
theorem Inv.each {n : Nat} {L : List Sl} {G I : List (Int × Value)} (h : Inv n L G I) (hn : n ≤ 300) (y : Int) (hy : y ∈ idsL L 128) : ∃ k : Nat, y = (k : Int) ∧ k < 65536 ∧ has L k = true ∧ mGet I y = some (.int .i64 (sX L (k % 128))) := by
  unfold idsL at hy
  obtain ⟨i, hi, rfl⟩ := List.mem_map.1 hy
  obtain ⟨hi1, hu⟩ := List.mem_filter.1 hi
  have hi2 := List.mem_range.1 hi1
  obtain ⟨g0, g1⟩ := h.gen i hi2
  have e : idOf L i = (((i + 128 * (sG L i).toNat : Nat)) : Int) := by rw [idOf_eq hi2 (h.gen i hi2) hn]; omega
  have hlt : i + 128 * (sG L i).toNat < 65536 := by omega
  have hmod : (i + 128 * (sG L i).toNat) % 128 = i := by omega
  have hdiv : (i + 128 * (sG L i).toNat) / 128 = (sG L i).toNat := by omega
  have hh : has L (i + 128 * (sG L i).toNat) = true := (has_iff h.gen hn _).2 (by rw [hmod, hdiv]; exact ⟨hu, by omega⟩)
  refine ⟨_, e, hlt, hh, ?_⟩
  rw [e, h.cur _ hlt, if_pos hh]
end Go.Proofs.Ytfdbibddhneklab.Arena
