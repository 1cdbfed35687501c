/- Path: what is taken off is the least open tile. No program in sight. -/
import Derived.Test.YtkbimhngbdbgdaaQH
import Derived.Test.YtkbimhngbdbgdaaTake
namespace Go.Proofs.Ytkbimhngbdbgdaa.Pure
open Go.RowKit Go.Proofs.Ytkbimhngbdbgdaa.PPathFinds
set_option linter.unusedVariables false
abbrev Seen := Int → Option (Int × Int × Bool)
/-- the heap holds the open tiles -/
structure Hr (hh : Int → Int) (l : List S51) (F : Seen) : Prop where
  heap : IsH l l.length
  node : ∀ x, x ∈ l → ∃ g by_ tk, F x.f2 = some (g, by_, tk) ∧ x.f1 = hh x.f2 ∧ g + hh x.f2 ≤ x.f0
  open_ : ∀ t g by_, F t = some (g, by_, false) → (⟨g + hh t, hh t, t⟩ : S51) ∈ l
theorem tk_spec (hh : Int → Int) : ∀ (k : Nat) (l : List S51) (F : Seen), l.length < k → Hr hh l F →
    ((∀ t g by_, F t ≠ some (g, by_, false)) ∧ (tk k l F).1 = false) ∨
    ∃ t g by_ l2, F t = some (g, by_, false) ∧ tk k l F = (true, ⟨g + hh t, hh t, t⟩, l2, sUp F t (g, by_, true)) ∧ Hr hh l2 (sUp F t (g, by_, true)) ∧ l2.length ≤ l.length ∧
      ∀ t' g' b', F t' = some (g', b', false) → le3 ⟨g + hh t, hh t, t⟩ ⟨g' + hh t', hh t', t'⟩
  | 0, _, _, h, _ => by omega
  | k + 1, l, F, hk, H => by
    unfold tk
    by_cases h0 : l.length = 0
    · rw [if_pos h0]
      left
      refine ⟨fun t g by_ hF => ?_, rfl⟩
      have := H.open_ t g by_ hF
      rw [List.length_eq_zero_iff.1 h0] at this
      cases this
    · rw [if_neg h0]
      obtain ⟨n, hn⟩ : ∃ n, l.length = n + 1 := ⟨l.length - 1, by omega⟩
      rw [hn, Nat.add_sub_cancel]
      obtain ⟨p1, p2, p3, p4, p5⟩ := pop_facts hn H.heap
      obtain ⟨x, hx⟩ : ∃ x, (hp_pop l).getD n z51 = x := ⟨_, rfl⟩
      obtain ⟨l2, hl2⟩ : ∃ l2, (hp_pop l).take n = l2 := ⟨_, rfl⟩
      rw [hx] at p3 p4 p5 ⊢
      rw [hl2] at p1 p2 p4 ⊢
      have hxl : x ∈ l := (p4 x).2 (.inr rfl)
      obtain ⟨g, by_, tk0, hF, hx1, hx0⟩ := H.node x hxl
      rw [hF]
      simp only [Option.getD_some]
      have hnode2 : ∀ y, y ∈ l2 → ∃ g by_ tk, F y.f2 = some (g, by_, tk) ∧ y.f1 = hh y.f2 ∧ g + hh y.f2 ≤ y.f0 := fun y hy => H.node y ((p4 y).2 (.inl hy))
      cases tk0 with
      | true =>
        rw [if_pos rfl]
        have H2 : Hr hh l2 F := ⟨by rw [p2]; exact p1, hnode2, fun t g' b' hF' => by
          rcases (p4 _).1 (H.open_ t g' b' hF') with h | h
          · exact h
          · exfalso
            have e : x.f2 = t := by rw [← h]
            rw [e, hF'] at hF
            simp at hF⟩
        rcases tk_spec hh k l2 F (by omega) H2 with h | ⟨t, g', b', l3, q1, q2, q3, q4, q5⟩
        · exact .inl h
        · exact .inr ⟨t, g', b', l3, q1, q2, q3, by omega, q5⟩
      | false =>
        rw [if_neg (by decide)]
        right
        have hin := H.open_ x.f2 g by_ hF
        have hle := p5 _ hin
        have hxe : x = ⟨g + hh x.f2, hh x.f2, x.f2⟩ := by
          unfold le3 at hle
          rw [lt3_not] at hle
          obtain ⟨x0, x1, x2⟩ := x
          simp only at hx1 hx0 hle ⊢
          simp only [S51.mk.injEq]
          exact ⟨by omega, hx1, trivial⟩
        obtain ⟨t, ht⟩ : ∃ t, x.f2 = t := ⟨_, rfl⟩
        rw [ht] at hF hxe hin ⊢
        subst hxe
        refine ⟨t, g, by_, l2, hF, rfl, ⟨by rw [p2]; exact p1, fun y hy => ?_, fun t' g' b' hF' => ?_⟩, by omega, fun t' g' b' hF' => p5 _ (H.open_ t' g' b' hF')⟩
        · obtain ⟨gy, by', ty, q1, q2, q3⟩ := hnode2 y hy
          by_cases e : y.f2 = t
          · rw [e] at q1
            rw [hF] at q1
            simp only [Option.some.injEq, Prod.mk.injEq] at q1
            obtain ⟨rfl, rfl, rfl⟩ := q1
            exact ⟨g, by_, true, by unfold sUp; rw [if_pos e], q2, q3⟩
          · exact ⟨gy, by', ty, by unfold sUp; rw [if_neg e]; exact q1, q2, q3⟩
        · unfold sUp at hF'
          by_cases e : t' = t
          · rw [if_pos e] at hF'
            simp at hF'
          · rw [if_neg e] at hF'
            rcases (p4 _).1 (H.open_ t' g' b' hF') with h | h
            · exact h
            · exact absurd (congrArg S51.f2 h) e
end Go.Proofs.Ytkbimhngbdbgdaa.Pure
