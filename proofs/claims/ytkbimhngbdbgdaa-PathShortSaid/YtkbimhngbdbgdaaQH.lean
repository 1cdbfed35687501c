/- Path: the heap's plain functions keep a heap. No program in sight. -/
import Derived.Test.YtkbimhngbdbgdaaHeap5
namespace Go.Proofs.Ytkbimhngbdbgdaa.Pure
open Go.RowKit Go.Proofs.Ytkbimhngbdbgdaa.PPathFinds
set_option linter.unusedVariables false
theorem lt3_iff (a b : S51) : lt3 a b = true ↔ (a.f0 < b.f0 ∨ (a.f0 = b.f0 ∧ (a.f1 < b.f1 ∨ (a.f1 = b.f1 ∧ a.f2 < b.f2)))) := by
  unfold lt3
  simp
theorem lt3_not (a b : S51) : lt3 a b = false ↔ ¬ (a.f0 < b.f0 ∨ (a.f0 = b.f0 ∧ (a.f1 < b.f1 ∨ (a.f1 = b.f1 ∧ a.f2 < b.f2)))) := by
  rw [← lt3_iff]; simp
/-- not behind -/
def le3 (a b : S51) : Prop := lt3 b a = false
theorem le3_refl (a : S51) : le3 a a := by unfold le3; rw [lt3_not]; omega
theorem le3_trans {a b c : S51} (h1 : le3 a b) (h2 : le3 b c) : le3 a c := by
  unfold le3 at *
  rw [lt3_not] at *
  omega
theorem le3_of_lt {a b : S51} (h : lt3 a b = true) : le3 a b := by
  unfold le3
  rw [lt3_not]
  rw [lt3_iff] at h
  omega
/-- the first n are a heap -/
def IsH (l : List S51) (n : Nat) : Prop := ∀ i, 0 < i → i < n → le3 (l.getD ((i - 1) / 2) z51) (l.getD i z51)
theorem sget (l : List S51) (i j p : Nat) (hi : i < l.length) (hj : j < l.length) : (sw l i j).getD p z51 = if p = j then l.getD i z51 else if p = i then l.getD j z51 else l.getD p z51 := by
  unfold sw
  rw [List.getD_eq_getElem?_getD, List.getElem?_set]
  by_cases h1 : j = p
  · subst h1
    simp [hj]
  · rw [if_neg h1, if_neg (fun e => h1 e.symm), List.getElem?_set]
    by_cases h2 : i = p
    · subst h2
      simp [hi]
    · rw [if_neg h2, if_neg (fun e => h2 e.symm), List.getD_eq_getElem?_getD]
theorem sget_j (l : List S51) (i j : Nat) (hi : i < l.length) (hj : j < l.length) : (sw l i j).getD j z51 = l.getD i z51 := by rw [sget l i j j hi hj, if_pos rfl]
theorem sget_i (l : List S51) (i j : Nat) (hi : i < l.length) (hj : j < l.length) (h : i ≠ j) : (sw l i j).getD i z51 = l.getD j z51 := by rw [sget l i j i hi hj, if_neg h, if_pos rfl]
theorem sget_o (l : List S51) (i j p : Nat) (hi : i < l.length) (hj : j < l.length) (h1 : p ≠ i) (h2 : p ≠ j) : (sw l i j).getD p z51 = l.getD p z51 := by rw [sget l i j p hi hj, if_neg h2, if_neg h1]
theorem mem_getD {l : List S51} {x : S51} : x ∈ l ↔ ∃ i, i < l.length ∧ l.getD i z51 = x := by
  rw [List.mem_iff_getElem]
  constructor
  · rintro ⟨i, h, rfl⟩
    exact ⟨i, h, by simp [List.getD_eq_getElem?_getD, List.getElem?_eq_getElem h]⟩
  · rintro ⟨i, h, rfl⟩
    exact ⟨i, h, by simp [List.getD_eq_getElem?_getD, List.getElem?_eq_getElem h]⟩
theorem sw_mem {l : List S51} {i j : Nat} (hi : i < l.length) (hj : j < l.length) (x : S51) : x ∈ sw l i j ↔ x ∈ l := by
  rw [mem_getD, mem_getD, sw_len]
  constructor
  · rintro ⟨p, hp, rfl⟩
    rw [sget l i j p hi hj]
    split
    · exact ⟨i, hi, rfl⟩
    · split
      · exact ⟨j, hj, rfl⟩
      · exact ⟨p, hp, rfl⟩
  · rintro ⟨p, hp, rfl⟩
    by_cases h1 : p = i
    · subst h1; exact ⟨j, hj, sget_j l p j hi hj⟩
    · by_cases h2 : p = j
      · subst h2; exact ⟨i, hi, sget_i l i p hi hj (fun e => h1 e.symm)⟩
      · exact ⟨p, hp, sget_o l i j p hi hj h1 h2⟩
theorem up_heap : ∀ (k : Nat) (l : List S51) (j : Nat), j < k → j < l.length → (∀ i, 0 < i → i < l.length → i ≠ j → le3 (l.getD ((i - 1) / 2) z51) (l.getD i z51)) →
    (∀ c, 0 < c → c < l.length → (c - 1) / 2 = j → 0 < j → le3 (l.getD ((j - 1) / 2) z51) (l.getD c z51)) → IsH (hp_up k l j) l.length
  | 0, _, _, h, _, _, _ => by omega
  | k + 1, l, j, hk, hj, h1, h2 => by
    unfold hp_up
    obtain ⟨p, hp⟩ : ∃ p, (j - 1) / 2 = p := ⟨_, rfl⟩
    rw [hp] at h2 ⊢
    by_cases hc : p = j ∨ lt3 (l.getD j z51) (l.getD p z51) = false
    · rw [if_pos hc]
      intro i hi hil
      by_cases hij : i = j
      · subst hij
        rcases hc with hc | hc
        · omega
        · rw [hp]; exact hc
      · exact h1 i hi hil hij
    · rw [if_neg hc]
      have hpj : p ≠ j := fun e => hc (.inl e)
      have hlt : lt3 (l.getD j z51) (l.getD p z51) = true := by
        cases h : lt3 (l.getD j z51) (l.getD p z51) with
        | true => rfl
        | false => exact absurd (.inr h) hc
      have hjp : le3 (l.getD j z51) (l.getD p z51) := le3_of_lt hlt
      have hp2 : p < j := by omega
      have hpl : p < l.length := by omega
      have := up_heap k (sw l p j) p (by omega) (by rw [sw_len]; exact hpl) ?_ ?_
      · rw [sw_len] at this; exact this
      · intro i hi hil hip
        rw [sw_len] at hil
        by_cases e1 : i = j
        · subst e1
          rw [hp, sget_i l p i hpl hj hpj, sget_j l p i hpl hj]
          exact hjp
        · by_cases e2 : (i - 1) / 2 = j
          · rw [e2, sget_j l p j hpl hj, sget_o l p j i hpl hj hip e1]
            exact h2 i hi hil e2 (by omega)
          · by_cases e3 : (i - 1) / 2 = p
            · rw [e3, sget_i l p j hpl hj hpj, sget_o l p j i hpl hj hip e1]
              have := h1 i hi hil e1
              rw [e3] at this
              exact le3_trans hjp this
            · rw [sget_o l p j _ hpl hj e3 e2, sget_o l p j i hpl hj hip e1]
              exact h1 i hi hil e1
      · intro c hc0 hcl hcp hp0
        rw [sw_len] at hcl
        rw [sget_o l p j ((p - 1) / 2) hpl hj (by omega) (by omega)]
        have hpp := h1 p hp0 hpl hpj
        by_cases e1 : c = j
        · subst e1
          rw [sget_j l p c hpl hj]
          exact hpp
        · rw [sget_o l p j c hpl hj (by omega) e1]
          have := h1 c hc0 hcl e1
          rw [hcp] at this
          exact le3_trans hpp this
theorem up_mem : ∀ (k : Nat) (l : List S51) (j : Nat), j < l.length → ∀ x, x ∈ hp_up k l j ↔ x ∈ l
  | 0, _, _, _, _ => Iff.rfl
  | k + 1, l, j, hj, x => by
    unfold hp_up
    split
    · exact Iff.rfl
    · rw [up_mem k _ _ (by rw [sw_len]; omega) x, sw_mem (by omega) hj]
theorem kid_facts (l : List S51) (i n : Nat) (h : 2 * i + 1 < n) : (hp_kid l i n = 2 * i + 1 ∨ hp_kid l i n = 2 * i + 2) ∧ hp_kid l i n < n ∧ ∀ c, 0 < c → c < n → (c - 1) / 2 = i → le3 (l.getD (hp_kid l i n) z51) (l.getD c z51) := by
  unfold hp_kid
  by_cases hc : 2 * i + 2 < n ∧ lt3 (l.getD (2 * i + 2) z51) (l.getD (2 * i + 1) z51) = true
  · rw [if_pos hc]
    refine ⟨.inr rfl, hc.1, fun c hc0 hcn hci => ?_⟩
    have : c = 2 * i + 1 ∨ c = 2 * i + 2 := by omega
    rcases this with rfl | rfl
    · exact le3_of_lt hc.2
    · exact le3_refl _
  · rw [if_neg hc]
    refine ⟨.inl rfl, h, fun c hc0 hcn hci => ?_⟩
    have : c = 2 * i + 1 ∨ c = 2 * i + 2 := by omega
    rcases this with rfl | rfl
    · exact le3_refl _
    · unfold le3
      cases hq : lt3 (l.getD (2 * i + 2) z51) (l.getD (2 * i + 1) z51) with
      | false => rfl
      | true => exact absurd ⟨hcn, hq⟩ hc
theorem down_heap : ∀ (k : Nat) (l : List S51) (i n : Nat), n ≤ l.length → n ≤ k + i → (∀ c, 0 < c → c < n → (c - 1) / 2 ≠ i → le3 (l.getD ((c - 1) / 2) z51) (l.getD c z51)) →
    (∀ c, 0 < c → c < n → (c - 1) / 2 = i → 0 < i → le3 (l.getD ((i - 1) / 2) z51) (l.getD c z51)) → IsH (hp_down k l i n) n ∧ (hp_down k l i n).getD n z51 = l.getD n z51
  | 0, l, i, n, hn, hk, h1, h2 => by
    unfold hp_down
    exact ⟨fun c hc0 hcn => h1 c hc0 hcn (by omega), rfl⟩
  | k + 1, l, i, n, hn, hk, h1, h2 => by
    unfold hp_down
    by_cases hb : n ≤ 2 * i + 1
    · rw [if_pos hb]
      exact ⟨fun c hc0 hcn => h1 c hc0 hcn (by omega), rfl⟩
    · rw [if_neg hb]
      obtain ⟨hk1, hk2, hk3⟩ := kid_facts l i n (by omega)
      obtain ⟨c0, hc0⟩ : ∃ c, hp_kid l i n = c := ⟨_, rfl⟩
      rw [hc0] at hk1 hk2 hk3 ⊢
      by_cases hc : lt3 (l.getD c0 z51) (l.getD i z51) = false
      · rw [if_pos hc]
        refine ⟨fun c hcp hcn => ?_, rfl⟩
        by_cases hci : (c - 1) / 2 = i
        · rw [hci]; exact le3_trans hc (hk3 c hcp hcn hci)
        · exact h1 c hcp hcn hci
      · rw [if_neg hc]
        have hlt : lt3 (l.getD c0 z51) (l.getD i z51) = true := by simpa using hc
        have hle := le3_of_lt hlt
        have hil : i < l.length := by omega
        have hcl : c0 < l.length := by omega
        have hne : i ≠ c0 := by omega
        have hA : ∀ c, 0 < c → c < n → (c - 1) / 2 ≠ c0 → le3 ((sw l i c0).getD ((c - 1) / 2) z51) ((sw l i c0).getD c z51) := by
          intro c hcp hcn hci
          by_cases e1 : (c - 1) / 2 = i
          · rw [e1, sget_i l i c0 hil hcl hne]
            by_cases e2 : c = c0
            · subst e2; rw [sget_j l i c hil hcl]; exact hle
            · rw [sget_o l i c0 c hil hcl (by omega) e2]; exact hk3 c hcp hcn e1
          · by_cases e2 : c = i
            · subst e2
              rw [sget_i l c c0 hil hcl hne, sget_o l c c0 ((c - 1) / 2) hil hcl (by omega) (by omega)]
              exact h2 c0 (by omega) hk2 (by omega) hcp
            · rw [sget_o l i c0 _ hil hcl e1 hci, sget_o l i c0 c hil hcl e2 (by omega)]
              exact h1 c hcp hcn e1
        have hB : ∀ c, 0 < c → c < n → (c - 1) / 2 = c0 → 0 < c0 → le3 ((sw l i c0).getD ((c0 - 1) / 2) z51) ((sw l i c0).getD c z51) := by
          intro c hcp hcn hci h0
          have e0 : (c0 - 1) / 2 = i := by omega
          rw [e0, sget_i l i c0 hil hcl hne, sget_o l i c0 c hil hcl (by omega) (by omega)]
          have := h1 c hcp hcn (by omega)
          rw [hci] at this
          exact this
        obtain ⟨r1, r2⟩ := down_heap k (sw l i c0) c0 n (by rw [sw_len]; exact hn) (by omega) hA hB
        exact ⟨r1, by rw [r2, sget_o l i c0 n hil hcl (by omega) (by omega)]⟩
theorem down_mem : ∀ (k : Nat) (l : List S51) (i n : Nat), n ≤ l.length → ∀ x, x ∈ hp_down k l i n ↔ x ∈ l
  | 0, _, _, _, _, _ => Iff.rfl
  | k + 1, l, i, n, hn, x => by
    unfold hp_down
    split
    · exact Iff.rfl
    · rename_i hb
      obtain ⟨hk1, hk2, _⟩ := kid_facts l i n (by omega)
      split
      · exact Iff.rfl
      · rw [down_mem k _ _ n (by rw [sw_len]; exact hn) x, sw_mem (by omega) (by omega)]
theorem heap_root {l : List S51} {n : Nat} (h : IsH l n) : ∀ i, i < n → le3 (l.getD 0 z51) (l.getD i z51) := by
  intro i
  induction i using Nat.strongRecOn with
  | ind i ih =>
    intro hi
    rcases Nat.eq_zero_or_pos i with rfl | h0
    · exact le3_refl _
    · exact le3_trans (ih ((i - 1) / 2) (by omega) (by omega)) (h i h0 hi)
theorem push_heap {l : List S51} (h : IsH l l.length) (x : S51) : IsH (hp_push l x) (l.length + 1) := by
  unfold hp_push
  have := up_heap (l.length + 1) (l ++ [x]) l.length (by omega) (by simp) ?_ ?_
  · rw [List.length_append, List.length_singleton] at this; exact this
  · intro i hi hil hne
    rw [List.length_append, List.length_singleton] at hil
    have e1 : ∀ p, p < l.length → (l ++ [x]).getD p z51 = l.getD p z51 := fun p hp => by
      rw [List.getD_eq_getElem?_getD, List.getElem?_append_left hp, List.getD_eq_getElem?_getD]
    rw [e1 _ (by omega), e1 _ (by omega)]
    exact h i hi (by omega)
  · intro c hc hcl hcp
    rw [List.length_append, List.length_singleton] at hcl
    omega
theorem push_mem (l : List S51) (x y : S51) : y ∈ hp_push l x ↔ y ∈ l ∨ y = x := by
  unfold hp_push
  rw [up_mem _ _ _ (by simp)]
  simp
/-- the least comes last, the others are a heap -/
theorem pop_facts {l : List S51} {n : Nat} (hn : l.length = n + 1) (h : IsH l l.length) :
    IsH ((hp_pop l).take n) n ∧ ((hp_pop l).take n).length = n ∧ (hp_pop l).getD n z51 = l.getD 0 z51 ∧ (∀ y, y ∈ l ↔ y ∈ (hp_pop l).take n ∨ y = (hp_pop l).getD n z51) ∧ ∀ y, y ∈ l → le3 ((hp_pop l).getD n z51) y := by
  have hlen := hp_pop_len l
  have hd : hp_pop l = hp_down (n + 1) (sw l 0 n) 0 n := by unfold hp_pop; rw [hn, Nat.add_sub_cancel]
  have hdn := down_heap (n + 1) (sw l 0 n) 0 n (by rw [sw_len]; omega) (by omega) ?_ (fun c _ _ _ h0 => by omega)
  · rw [← hd] at hdn
    have hl0 : (hp_pop l).getD n z51 = l.getD 0 z51 := by rw [hdn.2, sget_j l 0 n (by omega) (by omega)]
    have ht : ∀ p, p < n → ((hp_pop l).take n).getD p z51 = (hp_pop l).getD p z51 := fun p hp => by
      rw [List.getD_eq_getElem?_getD, List.getElem?_take_of_lt hp, List.getD_eq_getElem?_getD]
    have hmem : ∀ y, y ∈ l ↔ y ∈ (hp_pop l).take n ∨ y = (hp_pop l).getD n z51 := fun y => by
      have e1 : y ∈ l ↔ y ∈ hp_pop l := by rw [hd, down_mem _ _ _ _ (by rw [sw_len]; omega), sw_mem (by omega) (by omega)]
      rw [e1, mem_getD, mem_getD, hlen, hn, List.length_take, hlen, hn]
      constructor
      · rintro ⟨p, hp, rfl⟩
        by_cases hpn : p = n
        · subst hpn; exact .inr rfl
        · exact .inl ⟨p, by omega, ht p (by omega)⟩
      · rintro (⟨p, hp, rfl⟩ | rfl)
        · exact ⟨p, by omega, (ht p (by omega)).symm⟩
        · exact ⟨n, by omega, rfl⟩
    refine ⟨fun i hi hin => ?_, by rw [List.length_take, hlen]; omega, hl0, hmem, fun y hy => ?_⟩
    · rw [ht _ (by omega), ht _ hin]; exact hdn.1 i hi hin
    · rw [hl0]
      obtain ⟨p, hp, rfl⟩ := mem_getD.1 hy
      exact heap_root h p hp
  · intro c hc hcn hcp
    rw [sget_o l 0 n _ (by omega) (by omega) hcp (by omega), sget_o l 0 n c (by omega) (by omega) (by omega) (by omega)]
    exact h c hc (by omega)
end Go.Proofs.Ytkbimhngbdbgdaa.Pure
