/- Path: the search's state against the document's tiles. No program in sight. -/
import Derived.Test.YtkbimhngbdbgdaaQT
import Derived.Test.YtkbimhngbdbgdaaQG
import Derived.Test.YtkbimhngbdbgdaaPPathFindsx3
import Derived.Test.YtkbimhngbdbgdaaPPathFindsx5
import Derived.Test.YtkbimhngbdbgdaaWay
namespace Go.Proofs.Ytkbimhngbdbgdaa.Pure
open Go.RowKit Go.Proofs.Ytkbimhngbdbgdaa.PPathFinds Go.Proofs.YtkbimhngbdbgdaaW.PrintWords Go.Proofs.YtkbimhngbdbgdaaW.PrintLast Go.Proofs.YtkbimhngbdbgdaaW.PrintMore
set_option linter.unusedVariables false
/-- how much farther than near -/
def hh (a : Int) (s : ByteArray) (goal near t : Int) : Int := if near < farI a s t goal then farI a s t goal - near else 0
/-- a tile as the document has it -/
def tileOf (from_ t : Int) (o : Option (Int × Int × Bool)) : S58 := match o with
  | none => z58
  | some (g, b, tk) => ⟨true, !tk, g, if t = from_ then 0 else b⟩
structure Rl (a : Int) (s : ByteArray) (goal near from_ : Int) (all : List S58) (l : List S51) (F : Seen) (m : Int) : Prop where
  hr : Hr (hh a s goal near) l F
  len : all.length = s.size
  at_ : ∀ t : Int, onB s t = true → rd_T58 all t = tileOf from_ t (F t)
  out : ∀ t : Int, onB s t = false → F t = none
  gb : ∀ t g by_ tk, F t = some (g, by_, tk) → 0 ≤ g ∧ g ≤ m
  zero : ∀ t g by_ tk, F t = some (g, by_, tk) → (g = 0 ↔ t = from_)
  back : ∀ t g by_ tk, F t = some (g, by_, tk) → 0 < g → ∃ g' b' k', F by_ = some (g', b', k') ∧ g' < g
theorem rd58_set {all : List S58} {t x : Int} (h0 : 0 ≤ x) (h1 : x < all.length) (ht : 0 ≤ t) (y : S58) : rd_T58 (all.set x.toNat y) t = if t = x then y else rd_T58 all t := by
  unfold rd_T58
  rw [List.getD_eq_getElem?_getD, List.getElem?_set]
  by_cases e : t = x
  · subst e
    rw [if_pos rfl, if_pos rfl, if_pos (by omega)]
    rfl
  · rw [if_neg (by omega), if_neg e, List.getD_eq_getElem?_getD]
/-- a tile is taken: the document closes it -/
theorem Rl.take {a : Int} {s : ByteArray} {goal near from_ : Int} {all : List S58} {l l2 : List S51} {F : Seen} {m : Int} (h : Rl a s goal near from_ all l F m) {t g by_ : Int} (hF : F t = some (g, by_, false)) (hr2 : Hr (hh a s goal near) l2 (sUp F t (g, by_, true))) :
    Rl a s goal near from_ (all.set t.toNat ⟨(rd_T58 all t).f0, false, (rd_T58 all t).f2, (rd_T58 all t).f3⟩) l2 (sUp F t (g, by_, true)) m := by
  have hon : onB s t = true := by
    cases ho : onB s t with
    | true => rfl
    | false => rw [h.out t ho] at hF; cases hF
  have hot := onB_true hon
  have hat := h.at_ t hon
  rw [hF] at hat
  have old : ∀ t' g' b' k', sUp F t (g, by_, true) t' = some (g', b', k') → ∃ k'', F t' = some (g', b', k'') := fun t' g' b' k' hh => by
    unfold sUp at hh
    by_cases e : t' = t
    · rw [if_pos e] at hh
      simp only [Option.some.injEq, Prod.mk.injEq] at hh
      obtain ⟨rfl, rfl, rfl⟩ := hh
      exact ⟨false, by rw [e]; exact hF⟩
    · rw [if_neg e] at hh; exact ⟨k', hh⟩
  refine ⟨hr2, by rw [List.length_set]; exact h.len, fun t' ho' => ?_, fun t' ho' => ?_, fun t' g' b' k' hh => ?_, fun t' g' b' k' hh => ?_, fun t' g' b' k' hh hg => ?_⟩
  · have := onB_true ho'
    rw [rd58_set hot.1 (by rw [h.len]; exact hot.2) this.1]
    unfold sUp
    by_cases e : t' = t
    · rw [if_pos e, if_pos e, hat, e]
      rfl
    · rw [if_neg e, if_neg e]; exact h.at_ t' ho'
  · unfold sUp
    rw [if_neg (by rintro rfl; rw [hon] at ho'; cases ho')]
    exact h.out t' ho'
  · obtain ⟨k'', hq⟩ := old t' g' b' k' hh
    exact h.gb _ _ _ _ hq
  · obtain ⟨k'', hq⟩ := old t' g' b' k' hh
    exact h.zero _ _ _ _ hq
  · obtain ⟨k'', hq⟩ := old t' g' b' k' hh
    obtain ⟨g3, b3, k3, h3, h4⟩ := h.back _ _ _ _ hq hg
    by_cases e : b' = t
    · rw [e, hF] at h3
      simp only [Option.some.injEq, Prod.mk.injEq] at h3
      obtain ⟨rfl, rfl, rfl⟩ := h3
      exact ⟨g, by_, true, by unfold sUp; rw [if_pos e], h4⟩
    · exact ⟨g3, b3, k3, by unfold sUp; rw [if_neg e]; exact h3, h4⟩
/-- a tile is come to later than before: nothing turns -/
theorem skip_true {F : Seen} {t gg g by_ : Int} {tk : Bool} (hF : F t = some (g, by_, tk)) (h : g ≤ gg) : cm_skip F t gg = true := by
  unfold cm_skip; rw [hF]; simp [h]
theorem skip_false {F : Seen} {t gg : Int} (h : ∀ g by_ tk, F t = some (g, by_, tk) → gg < g) : cm_skip F t gg = false := by
  unfold cm_skip
  cases hF : F t with
  | none => rfl
  | some x =>
    obtain ⟨g, b, k⟩ := x
    have := h g b k hF
    simp
    omega
/-- a tile is come to -/
theorem Rl.comes {a : Int} {s : ByteArray} {goal near from_ : Int} {all : List S58} {l : List S51} {F : Seen} {m : Int} (h : Rl a s goal near from_ all l F m) {x t g by0 : Int} {tk0 : Bool} (hx : onB s x = true) (ht : F t = some (g, by0, tk0)) (hgm : g + 1 ≤ m)
    (hs : ∀ g' b' k', F x = some (g', b', k') → g + 1 < g') (hn : ∀ t, 0 ≤ hh a s goal near t) :
    Rl a s goal near from_ (all.set x.toNat ⟨true, true, g + 1, t⟩) (hp_push l ⟨g + 1 + hh a s goal near x, hh a s goal near x, x⟩) (sUp F x (g + 1, t, false)) m := by
  have hox := onB_true hx
  have hg0 := h.gb _ _ _ _ ht
  have hxt : x ≠ t := by
    rintro rfl
    have := hs _ _ _ ht
    omega
  have hback : ∀ (N : Nat) (u gu bu : Int) (ku : Bool), F u = some (gu, bu, ku) → gu ≤ N → ∃ bf kf, F from_ = some (0, bf, kf) := by
    intro N
    induction N with
    | zero =>
      intro u gu bu ku hu hN
      have h0 := h.gb _ _ _ _ hu
      have : gu = 0 := by omega
      have hu2 := (h.zero _ _ _ _ hu).1 this
      rw [hu2, this] at hu
      exact ⟨bu, ku, hu⟩
    | succ N ih =>
      intro u gu bu ku hu hN
      have h0 := h.gb _ _ _ _ hu
      by_cases hz : gu = 0
      · have hu2 := (h.zero _ _ _ _ hu).1 hz
        rw [hu2, hz] at hu
        exact ⟨bu, ku, hu⟩
      · obtain ⟨g3, b3, k3, h3, h4⟩ := h.back _ _ _ _ hu (by omega)
        exact ih _ _ _ _ h3 (by omega)
  have hxf : x ≠ from_ := by
    intro e
    obtain ⟨bf, kf, hf⟩ := hback g.toNat t g by0 tk0 ht (by omega)
    rw [← e] at hf
    have := hs _ _ _ hf
    omega
  refine ⟨⟨?_, fun y hy => ?_, fun t' g' b' hF' => ?_⟩, by rw [List.length_set]; exact h.len, fun t' ho' => ?_, fun t' ho' => ?_, fun t' g' b' k' hq => ?_, fun t' g' b' k' hq => ?_, fun t' g' b' k' hq hg => ?_⟩
  · rw [hp_push_len]; exact push_heap h.hr.heap _
  · rcases (push_mem l _ y).1 hy with hy | rfl
    · obtain ⟨gy, by', ty, q1, q2, q3⟩ := h.hr.node y hy
      by_cases e : y.f2 = x
      · rw [e] at q1
        have := hs _ _ _ q1
        rw [e] at q2 q3 ⊢
        exact ⟨g + 1, t, false, by unfold sUp; rw [if_pos rfl], q2, by omega⟩
      · exact ⟨gy, by', ty, by unfold sUp; rw [if_neg e]; exact q1, q2, q3⟩
    · exact ⟨g + 1, t, false, by unfold sUp; rw [if_pos rfl], rfl, Int.le_refl _⟩
  · apply (push_mem l _ _).2
    unfold sUp at hF'
    by_cases e : t' = x
    · rw [if_pos e] at hF'
      simp only [Option.some.injEq, Prod.mk.injEq] at hF'
      obtain ⟨rfl, rfl, -⟩ := hF'
      right; rw [e]
    · rw [if_neg e] at hF'
      exact .inl (h.hr.open_ t' g' b' hF')
  · have := onB_true ho'
    rw [rd58_set hox.1 (by rw [h.len]; exact hox.2) this.1]
    unfold sUp
    by_cases e : t' = x
    · rw [if_pos e, if_pos e]
      unfold tileOf
      simp only
      rw [if_neg (fun e2 => hxf (e.symm.trans e2))]
      rfl
    · rw [if_neg e, if_neg e]; exact h.at_ t' ho'
  · unfold sUp
    rw [if_neg (by rintro rfl; rw [hx] at ho'; cases ho')]
    exact h.out t' ho'
  · unfold sUp at hq
    by_cases e : t' = x
    · rw [if_pos e] at hq
      simp only [Option.some.injEq, Prod.mk.injEq] at hq
      obtain ⟨rfl, -, -⟩ := hq
      omega
    · rw [if_neg e] at hq; exact h.gb _ _ _ _ hq
  · unfold sUp at hq
    by_cases e : t' = x
    · rw [if_pos e] at hq
      simp only [Option.some.injEq, Prod.mk.injEq] at hq
      obtain ⟨rfl, -, -⟩ := hq
      constructor
      · intro hz; omega
      · intro hz
        exact absurd (e.symm.trans hz) hxf
    · rw [if_neg e] at hq; exact h.zero _ _ _ _ hq
  · unfold sUp at hq
    by_cases e : t' = x
    · rw [if_pos e] at hq
      simp only [Option.some.injEq, Prod.mk.injEq] at hq
      obtain ⟨rfl, rfl, -⟩ := hq
      exact ⟨g, by0, tk0, by unfold sUp; rw [if_neg (fun e => hxt e.symm)]; exact ht, by omega⟩
    · rw [if_neg e] at hq
      obtain ⟨g3, b3, k3, h3, h4⟩ := h.back _ _ _ _ hq hg
      by_cases e2 : b' = x
      · rw [e2] at h3
        have := hs _ _ _ h3
        exact ⟨g + 1, t, false, by unfold sUp; rw [if_pos e2], by omega⟩
      · exact ⟨g3, b3, k3, by unfold sUp; rw [if_neg e2]; exact h3, h4⟩
/-- the way back, told alike -/
theorem way_rel {a : Int} {s : ByteArray} {goal near from_ : Int} {all : List S58} {l : List S51} {F : Seen} {m : Int} (h : Rl a s goal near from_ all l F m) (hm : m ≤ 900) : ∀ (N : Nat) (t g by_ : Int) (tk : Bool), F t = some (g, by_, tk) → g ≤ N →
    ∃ r, (∀ k, N < k → wy k F t = some r) ∧ r.length ≤ N ∧ ∀ acc : List Int, acc.length ≤ 2000 - N → N ≤ 900 → ∀ k, N < k → rematchref10_Find.l1 k from_ all t acc = some (r.reverse ++ acc, true)
  | N, t, g, by_, tk, hF, hN => by
    have h0 := h.gb _ _ _ _ hF
    by_cases hz : g = 0
    · have htf := (h.zero _ _ _ _ hF).1 hz
      refine ⟨[], fun k hk => ?_, by simp, fun acc _ _ k hk => ?_⟩
      · obtain ⟨k, rfl⟩ : ∃ k', k = k' + 1 := ⟨k - 1, by omega⟩
        unfold wy
        rw [hF, Option.getD_some, if_neg (by simp only; omega)]
      · obtain ⟨k, rfl⟩ : ∃ k', k = k' + 1 := ⟨k - 1, by omega⟩
        rw [rematchref10_Find.l1, if_pos htf]
        rfl
    · match N, hN with
      | 0, hN => omega
      | N + 1, hN =>
        obtain ⟨g3, b3, k3, h3, h4⟩ := h.back _ _ _ _ hF (by omega)
        obtain ⟨r, r1, r2, r3⟩ := way_rel h hm N by_ g3 b3 k3 h3 (by omega)
        have htf : t ≠ from_ := fun e => hz ((h.zero _ _ _ _ hF).2 e)
        have hon : onB s t = true := by
          cases ho : onB s t with
          | true => rfl
          | false => rw [h.out t ho] at hF; cases hF
        have hot := onB_true hon
        have hat := h.at_ t hon
        rw [hF] at hat
        unfold tileOf at hat
        simp only at hat
        rw [if_neg htf] at hat
        refine ⟨t :: r, fun k hk => ?_, by simp; omega, fun acc hacc hN9 k hk => ?_⟩
        · obtain ⟨k, rfl⟩ : ∃ k', k = k' + 1 := ⟨k - 1, by omega⟩
          unfold wy
          rw [hF, Option.getD_some, if_pos (by simp only; omega), r1 k (by omega)]
          rfl
        · obtain ⟨k, rfl⟩ : ∃ k', k = k' + 1 := ⟨k - 1, by omega⟩
          rw [rematchref10_Find.l1, if_neg htf, Option.bind_some, if_pos (by simp; omega), if_pos hot.1, if_pos (by rw [h.len]; exact hot.2), hat]
          show rematchref10_Find.l1 k from_ all by_ ([t] ++ acc) = _
          rw [r3 ([t] ++ acc) (by simp; omega) (by omega) k (by omega)]
          simp
end Go.Proofs.Ytkbimhngbdbgdaa.Pure
