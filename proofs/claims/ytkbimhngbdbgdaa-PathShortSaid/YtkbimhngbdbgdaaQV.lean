/- Path: the document's best open tile. No program in sight. -/
import Derived.Test.YtkbimhngbdbgdaaQU
namespace Go.Proofs.Ytkbimhngbdbgdaa.Pure
open Go.RowKit Go.Proofs.Ytkbimhngbdbgdaa.PPathFinds Go.Proofs.YtkbimhngbdbgdaaW.PrintWords Go.Proofs.YtkbimhngbdbgdaaW.PrintLast Go.Proofs.YtkbimhngbdbgdaaW.PrintMore
set_option linter.unusedVariables false
theorem farI_range {a b : Int} {s : ByteArray} (h : Okd a b s) (t u : Int) : -1 ≤ farI a s t u ∧ farI a s t u ≤ 128 := by
  unfold farI
  split
  · rename_i hq
    have := dst_le h hq.1 hq.2
    omega
  · omega
theorem hh_range {a b : Int} {s : ByteArray} (h : Okd a b s) {goal near : Int} (hn : 0 ≤ near) (t : Int) : 0 ≤ hh a s goal near t ∧ hh a s goal near t ≤ 128 := by
  have := farI_range h t goal
  unfold hh
  split <;> omega
theorem rfar_eq {a b : Int} {s : ByteArray} (h : Okd a b s) {goal near : Int} (hn : 0 ≤ near ∧ near ≤ 9223372036854775807) (t : Int) (k : Nat) (hk : 0 < k) : rematchref10_far.f k a b s t goal near = some (hh a s goal near t) := by
  have hr := farI_range h t goal
  unfold rematchref10_far.f hh
  rw [far_r h t goal k hk, Option.bind_some, w64 (by omega)]
  by_cases h1 : farI a s t goal - near < 0
  · rw [if_pos h1, if_neg (by omega)]
  · rw [if_neg h1]
    by_cases h2 : near < farI a s t goal
    · rw [if_pos h2]
    · rw [if_neg h2]; congr 1; omega
/-- an open tile's node, off the document's tiles -/
def ndA (a : Int) (s : ByteArray) (goal near : Int) (all : List S58) (t : Int) : S51 := ⟨(rd_T58 all t).f2 + hh a s goal near t, hh a s goal near t, t⟩
/-- the best of the first i -/
def Out (a : Int) (s : ByteArray) (goal near : Int) (all : List S58) (i : Nat) (r : Int) : Prop :=
  (r = -1 ∧ ∀ t : Nat, t < i → (rd_T58 all t).f1 = false) ∨
  ∃ o : Nat, r = o ∧ o < i ∧ (rd_T58 all o).f1 = true ∧ ∀ t : Nat, t < i → (rd_T58 all t).f1 = true → le3 (ndA a s goal near all o) (ndA a s goal near all t)
theorem best_l0 {a b : Int} {s : ByteArray} (h : Okd a b s) {goal near : Int} (hn : 0 ≤ near ∧ near ≤ 9223372036854775807) {all : List S58} (hl : all.length = s.size) (hg : ∀ t : Nat, t < s.size → 0 ≤ (rd_T58 all t).f2 ∧ (rd_T58 all t).f2 ≤ 1000) :
    ∀ (d i : Nat) (r : Int) (k : Nat), i + d = s.size → d + 2 ≤ k → Out a s goal near all i r → ∃ r', rematchref10_best.l0 k all goal near r i a b s = some r' ∧ Out a s goal near all s.size r'
  | 0, i, r, k, hi, hk, ho => by
    obtain ⟨k, rfl⟩ : ∃ k', k = k' + 1 := ⟨k - 1, by omega⟩
    have : i = s.size := by omega
    subst this
    exact ⟨r, by rw [rematchref10_best.l0, if_neg (by rw [hl]; omega)], ho⟩
  | d + 1, i, r, k, hi, hk, ho => by
    obtain ⟨k, rfl⟩ : ∃ k', k = k' + 1 := ⟨k - 1, by omega⟩
    have hs := h.le
    have hw : wrap64 ((i : Int) + 1) = ((i + 1 : Nat) : Int) := by unfold wrap64; omega
    rw [rematchref10_best.l0, if_pos (by rw [hl]; omega), if_pos (by omega)]
    have hgi := hg i (by omega)
    have hhi := hh_range h (goal := goal) hn.1 i
    by_cases hopen : (rd_T58 all i).f1 = true
    · rw [if_pos hopen]
      rcases ho with ⟨rfl, ho⟩ | ⟨o, rfl, hoi, hoo, hmin⟩
      · rw [if_pos (by decide), hw]
        refine best_l0 h hn hl hg d (i + 1) _ k (by omega) (by omega) (.inr ⟨i, rfl, by omega, hopen, fun t ht hto => ?_⟩)
        by_cases e : t = i
        · subst e; exact le3_refl _
        · rw [ho t (by omega)] at hto; cases hto
      · have hgo := hg o (by omega)
        have hho := hh_range h (goal := goal) hn.1 o
        rw [if_neg (by omega), rfar_eq h hn _ k (by omega), Option.bind_some, rfar_eq h hn _ k (by omega), Option.bind_some, if_pos (by omega), if_pos (by rw [hl]; omega), w64 (by omega), w64 (by omega), hw]
        have hi_new : lt3 (ndA a s goal near all i) (ndA a s goal near all o) = true → Out a s goal near all (i + 1) i := fun hlt => .inr ⟨i, rfl, by omega, hopen, fun t ht hto => by
          by_cases e : t = i
          · subst e; exact le3_refl _
          · exact le3_trans (le3_of_lt hlt) (hmin t (by omega) hto)⟩
        have ho_new : le3 (ndA a s goal near all o) (ndA a s goal near all i) → Out a s goal near all (i + 1) o := fun hle => .inr ⟨o, rfl, by omega, hoo, fun t ht hto => by
          by_cases e : t = i
          · subst e; exact hle
          · exact hmin t (by omega) hto⟩
        by_cases c1 : (rd_T58 all i).f2 + hh a s goal near i < (rd_T58 all o).f2 + hh a s goal near o
        · rw [if_pos c1]
          exact best_l0 h hn hl hg d (i + 1) _ k (by omega) (by omega) (hi_new (by rw [lt3_iff]; left; exact c1))
        · rw [if_neg c1]
          by_cases c2 : (rd_T58 all i).f2 + hh a s goal near i = (rd_T58 all o).f2 + hh a s goal near o
          · rw [if_pos c2]
            by_cases c3 : hh a s goal near i < hh a s goal near o
            · rw [if_pos c3]
              exact best_l0 h hn hl hg d (i + 1) _ k (by omega) (by omega) (hi_new (by rw [lt3_iff]; right; exact ⟨c2, .inl c3⟩))
            · rw [if_neg c3]
              refine best_l0 h hn hl hg d (i + 1) _ k (by omega) (by omega) (ho_new ?_)
              unfold le3 ndA
              rw [lt3_not]
              simp only
              omega
          · rw [if_neg c2]
            refine best_l0 h hn hl hg d (i + 1) _ k (by omega) (by omega) (ho_new ?_)
            unfold le3 ndA
            rw [lt3_not]
            simp only
            omega
    · rw [if_neg hopen, hw]
      have hf : (rd_T58 all i).f1 = false := by simpa using hopen
      refine best_l0 h hn hl hg d (i + 1) _ k (by omega) (by omega) ?_
      rcases ho with ⟨rfl, ho⟩ | ⟨o, rfl, hoi, hoo, hmin⟩
      · refine .inl ⟨rfl, fun t ht => ?_⟩
        by_cases e : t = i
        · subst e; exact hf
        · exact ho t (by omega)
      · refine .inr ⟨o, rfl, by omega, hoo, fun t ht hto => ?_⟩
        by_cases e : t = i
        · subst e; rw [hf] at hto; cases hto
        · exact hmin t (by omega) hto
theorem best_eq {a b : Int} {s : ByteArray} (h : Okd a b s) {goal near from_ : Int} (hn : 0 ≤ near ∧ near ≤ 9223372036854775807) {all : List S58} {l : List S51} {F : Seen} {m : Int} (hR : Rl a s goal near from_ all l F m) (hm : m ≤ 900) (k : Nat) (hk : s.size + 2 ≤ k) :
    ((∀ t g by_, F t ≠ some (g, by_, false)) → rematchref10_best.f k a b s all goal near = some (-1)) ∧
    ∀ t g by_, F t = some (g, by_, false) → (∀ t' g' b', F t' = some (g', b', false) → le3 ⟨g + hh a s goal near t, hh a s goal near t, t⟩ ⟨g' + hh a s goal near t', hh a s goal near t', t'⟩) → rematchref10_best.f k a b s all goal near = some t := by
  have hon : ∀ t : Nat, t < s.size → onB s (t : Int) = true := fun t ht => by simp [onB]; omega
  have hg : ∀ t : Nat, t < s.size → 0 ≤ (rd_T58 all t).f2 ∧ (rd_T58 all t).f2 ≤ 1000 := fun t ht => by
    rw [hR.at_ t (hon t ht)]
    unfold tileOf
    cases hF : F t with
    | none => exact ⟨Int.le_refl _, show (0 : Int) ≤ 1000 by omega⟩
    | some x => obtain ⟨g, b, k⟩ := x; have := hR.gb _ _ _ _ hF; exact ⟨this.1, by show g ≤ 1000; omega⟩
  obtain ⟨r, h1, h2⟩ := best_l0 h hn hR.len hg s.size 0 (-1) k (by omega) (by omega) (.inl ⟨rfl, fun t ht => by omega⟩)
  have h1' : rematchref10_best.f k a b s all goal near = some r := h1
  rw [h1']
  have hopen : ∀ t : Nat, t < s.size → ((rd_T58 all t).f1 = true ↔ ∃ g by_, F t = some (g, by_, false)) := fun t ht => by
    rw [hR.at_ t (hon t ht)]
    unfold tileOf
    cases hF : F t with
    | none => simp [z58]
    | some x => obtain ⟨g, b, k⟩ := x; cases k <;> simp
  refine ⟨fun hno => ?_, fun t g by_ hF hmin => ?_⟩
  · rcases h2 with ⟨rfl, -⟩ | ⟨o, rfl, hol, hoo, -⟩
    · rfl
    · obtain ⟨g, by_, hF⟩ := (hopen o hol).1 hoo
      exact absurd hF (hno _ _ _)
  · have hont : onB s t = true := by
      cases ho : onB s t with
      | true => rfl
      | false => rw [hR.out t ho] at hF; cases hF
    have hot := onB_true hont
    obtain ⟨n, rfl⟩ : ∃ n : Nat, t = n := ⟨t.toNat, by omega⟩
    have hnl : n < s.size := by omega
    have hno := (hopen n hnl).2 ⟨g, by_, hF⟩
    rcases h2 with ⟨rfl, hq⟩ | ⟨o, rfl, hol, hoo, hmin2⟩
    · rw [hq n hnl] at hno; cases hno
    · obtain ⟨g', by', hF'⟩ := (hopen o hol).1 hoo
      have q1 := hmin _ _ _ hF'
      have q2 := hmin2 n hnl hno
      have e1 : (rd_T58 all n).f2 = g := by rw [hR.at_ n hont, hF]; rfl
      have e2 : (rd_T58 all o).f2 = g' := by rw [hR.at_ o (hon o hol), hF']; rfl
      unfold ndA at q2
      rw [e1, e2] at q2
      unfold le3 at q1 q2
      rw [lt3_not] at q1 q2
      simp only at q1 q2
      congr 1
      omega
end Go.Proofs.Ytkbimhngbdbgdaa.Pure
