/- LZ: what is packed comes back; how long it may be. No program in sight. -/
import Derived.Test.YtigcgdhihaibbaaDoorZQ
import Derived.Test.YtigcgdhihaibbaaDoorZW
namespace Go.Proofs.YtigcgdhihaibbaaDoor.PLz
open Go.RowKit Go.Proofs.YtigcgdhihaibbaaDoorW.PrintWords Go.Proofs.YtigcgdhihaibbaaDoorW.PrintLast
set_option linter.unusedVariables false
theorem lb_vb_bytes : ∀ (k : Nat) (n : Int), 0 ≤ n → IsB (wire_vb k n)
  | 0, n, h => by intro x hx; rw [wire_vb] at hx; simp at hx; subst hx; omega
  | k + 1, n, h => by
    rw [wire_vb]
    split
    · intro x hx
      rcases List.mem_cons.1 hx with rfl | hx
      · omega
      · exact lb_vb_bytes k _ (by omega) x hx
    · intro x hx; simp at hx; subst hx; omega
/-! how long it may be -/
/-! its bytes -/
theorem run_bytes : ∀ (f : Nat) (l : List Int), IsB l → IsB (lz_run f l) := by
  intro f
  induction f with
  | zero => intro l hl; exact isB_nil
  | succ f ih =>
    intro l hl
    rw [lz_run]
    split
    · refine isB_app (fun x hx => ?_) (ih _ (isB_drop hl 64))
      rcases List.mem_cons.1 hx with rfl | hx
      · decide
      · exact isB_take hl 64 x hx
    · split
      · exact isB_nil
      · rename_i h1 h2
        have : 1 ≤ l.length := by
          cases l with
          | nil => exact absurd rfl h2
          | cons x l => simp
        intro x hx
        rcases List.mem_cons.1 hx with rfl | hx
        · omega
        · exact hl x hx
theorem lb_bytes {b : List Int} (hb : IsB b) : ∀ (f at_ plain : Nat) (out : List Int), IsB out → IsB (lz_packF b f at_ plain out) := by
  intro f
  induction f with
  | zero => intro at_ plain out h; exact h
  | succ f ih =>
    intro at_ plain out h
    have hc : IsB (lz_cut b plain at_) := isB_take (isB_drop hb _) _
    rw [lz_packF]
    split
    · split
      · exact ih _ _ _ h
      · rename_i hne
        have hB := lz_best_ok b at_
        obtain ⟨b1, b2, b3, b4, b5, b6, b7⟩ := hB.resolve_left hne
        refine ih _ _ _ (isB_app (isB_app (isB_app h (run_bytes _ _ hc)) ?_) (lb_vb_bytes _ _ (by omega)))
        intro x hx
        simp only [List.mem_singleton] at hx
        subst hx
        omega
    · exact isB_app h (run_bytes _ _ hc)
theorem lb_isB {b : List Int} (hb : IsB b) : IsB (lz_pack b) := lb_bytes hb _ _ _ _ isB_nil
/-! zeros -/
end Go.Proofs.YtigcgdhihaibbaaDoor.PLz
