/- Path: what Find answers is what the document answers. No program in sight. -/
import Derived.Test.YtkbimhngbdbgdaaQW
namespace Go.Proofs.Ytkbimhngbdbgdaa.Pure
open Go.RowKit Go.Proofs.Ytkbimhngbdbgdaa.PPathFinds Go.Proofs.YtkbimhngbdbgdaaW.PrintWords Go.Proofs.YtkbimhngbdbgdaaW.PrintLast Go.Proofs.YtkbimhngbdbgdaaW.PrintMore
set_option linter.unusedVariables false
set_option maxHeartbeats 2000000
theorem rd58_rep (n : Nat) (t : Int) : rd_T58 (List.replicate n z58) t = z58 := by
  unfold rd_T58
  rw [List.getD_eq_getElem?_getD, List.getElem?_replicate]
  split <;> rfl
theorem rl_new {a b : Int} {s : ByteArray} (h : Okd a b s) {goal near from_ : Int} (hn : 0 ≤ near) (hf : onB s from_ = true) :
    Rl a s goal near from_ ((List.replicate s.size z58).set from_.toNat ⟨true, true, 0, 0⟩) (cm_l (fun _ => none) [] from_ 0 (hh a s goal near from_)) (cm_F (fun _ => none) from_ from_ 0) 0 := by
  have hof := onB_true hf
  have hF : cm_F (fun _ => none) from_ from_ 0 = sUp (fun _ => none) from_ (0, from_, false) := rfl
  have hL : cm_l (fun _ => none) [] from_ 0 (hh a s goal near from_) = hp_push [] ⟨0 + hh a s goal near from_, hh a s goal near from_, from_⟩ := rfl
  rw [hF, hL]
  have old : ∀ t g b' k, sUp (fun _ => none) from_ (0, from_, false) t = some (g, b', k) → t = from_ ∧ g = 0 ∧ b' = from_ ∧ k = false := fun t g b' k hq => by
    unfold sUp at hq
    by_cases e : t = from_
    · rw [if_pos e] at hq
      simp only [Option.some.injEq, Prod.mk.injEq] at hq
      obtain ⟨rfl, rfl, rfl⟩ := hq
      exact ⟨e, rfl, rfl, rfl⟩
    · rw [if_neg e] at hq; cases hq
  refine ⟨⟨?_, fun y hy => ?_, fun t g b' hq => ?_⟩, by rw [List.length_set, List.length_replicate], fun t ht => ?_, fun t ht => ?_, fun t g b' k hq => ?_, fun t g b' k hq => ?_, fun t g b' k hq hg => ?_⟩
  · rw [hp_push_len]
    intro i hi hil
    simp at hil
    omega
  · rcases (push_mem [] _ y).1 hy with hy | rfl
    · cases hy
    · exact ⟨0, from_, false, by unfold sUp; rw [if_pos rfl], rfl, Int.le_refl _⟩
  · obtain ⟨rfl, rfl, rfl, -⟩ := old _ _ _ _ hq
    exact (push_mem [] _ _).2 (.inr rfl)
  · have hot := onB_true ht
    rw [rd58_set hof.1 (by rw [List.length_replicate]; exact hof.2) hot.1, rd58_rep]
    unfold sUp
    by_cases e : t = from_
    · rw [if_pos e, if_pos e]
      unfold tileOf
      simp [e]
    · rw [if_neg e, if_neg e]; rfl
  · unfold sUp
    rw [if_neg (by rintro rfl; rw [hf] at ht; cases ht)]
  · obtain ⟨-, rfl, -, -⟩ := old _ _ _ _ hq; omega
  · obtain ⟨h1, h2, -, -⟩ := old _ _ _ _ hq
    exact ⟨fun _ => h1, fun _ => h2⟩
  · obtain ⟨-, rfl, -, -⟩ := old _ _ _ _ hq; omega
/-- from a tile of the map to another one -/
theorem find_on {a b : Int} {s : ByteArray} (h : Okd a b s) (h2 : 2 ≤ a) {goal near from_ : Int} (hn : 0 ≤ near ∧ near ≤ 9223372036854775807) (hf : onB s from_ = true) (hg : onB s goal = true) (busy : List Int) (hbl : busy.length ≤ 1000) (bz : Value) :
    ∃ R, (∀ gm, fd ⟨a, b, s, bz, goal, near, gm⟩ (fun x => decide (x ∈ busy)) 600 (cm_l (fun _ => none) [] from_ 0 (if near < farI a s from_ goal then farI a s from_ goal - near else 0)) (cm_F (fun _ => none) from_ from_ 0) = some R) ∧
      ∃ K, ∀ k, K ≤ k → rematchref10_Find.f k a b s busy from_ goal near = some R := by
  have hof := onB_true hf
  have hs := h.le
  have hl1 : (cm_l (fun _ => none) [] from_ 0 (hh a s goal near from_)).length ≤ 1 + 4 * 0 := by
    show (hp_push [] _).length ≤ _
    rw [hp_push_len]; decide
  have key := fun gm => fd_rel h h2 hn busy hbl ⟨a, b, s, bz, goal, near, gm⟩ ⟨rfl, rfl, rfl, rfl, rfl⟩ 600 0 _ _ _ (by omega) (rl_new h hn.1 hf) hl1
  obtain ⟨R, f1, K, f2⟩ := key 0
  refine ⟨R, fun gm => ?_, K + 2, fun k hk => ?_⟩
  · obtain ⟨R', g1, K', g2⟩ := key gm
    have e1 := f2 (K + K') (by omega)
    have e2 := g2 (K + K') (by omega)
    rw [e1] at e2
    have : R' = R := (Option.some.inj e2).symm
    rw [this] at g1
    exact g1
  · obtain ⟨k, rfl⟩ : ∃ k', k = k' + 1 := ⟨k - 1, by omega⟩
    unfold rematchref10_Find.f
    rw [on_r h, Option.bind_some, hf, if_pos rfl, on_r h, Option.bind_some, hg, if_pos rfl, rematchref10_Find.j0, if_neg (by simp; omega), h.w, if_pos (by omega), if_pos (by omega), Option.bind_some, if_pos hof.1,
      if_pos (by rw [List.length_replicate]; omega), Int.toNat_natCast]
    exact f2 k (by omega)
end Go.Proofs.Ytkbimhngbdbgdaa.Pure
