import Derived.Test.YtigcgdhihaibbaaDoorZ10
import Derived.Test.YtigcgdhihaibbaaDoorZU
import Derived.Lib.SlBytesConst
namespace Go.Proofs.YtigcgdhihaibbaaDoor.PLz
open Go.RowKit Go.Proofs.YtigcgdhihaibbaaDoorW.PrintWords Go.Proofs.YtigcgdhihaibbaaDoorW.PrintLast Go.Proofs.YtigcgdhihaibbaaDoorW.PrintMore
attribute [local go_sem] max2_int min2_int max_two min_two max_three min_three max_four min_four   -- for this text's walks alone
set_option linter.unusedVariables false
set_option linter.unusedSimpArgs false
def lz_Pack.f (l0 : List Int) : Option (List Int) := if l0.length ≤ 1000000 ∧ wire_bytes l0 = true then some (lz_pack l0) else none
theorem lz_bytes_all {l : List Int} (h : wire_bytes l = true) : ∀ x ∈ l, 0 ≤ x ∧ x < 256 := by
  unfold wire_bytes at h
  intro x hx
  simpa using List.all_eq_true.1 h x hx
theorem lz_Pack.calls (A0 : Option Addr) (c0 : Nat) (l0 : List Int) (r : List Int) (w : World) (hr0 : Kd.C (Kd.int .u8) w A0 l0.length l0) (hc0 : l0.length ≤ c0) (h : lz_Pack.f l0 = some r) :
    Calls Tryd.prog 13 #[.slice A0 l0.length c0] w fun e w' => ∃ v0_ : Value, e = .returned (v0_) ∧ Kd.R (Kd.int .u8) 5 w' w.heap.size (fun _ => True) v0_ r ∧ Below w.heap.size w w' := by
  unfold lz_Pack.f at h
  by_cases hd : l0.length ≤ 1000000 ∧ wire_bytes l0 = true
  · rw [if_pos hd] at h
    exact lz_Pack_calls A0 c0 l0 w hr0 hc0 hd.1 (lz_bytes_all hd.2) r (Option.some.inj h)
  · rw [if_neg hd] at h; cases h
def lz_Unpack.f (l0 : List Int) (a1 : Int) : Option (List Int × Int) := if wire_bytes l0 = true ∧ l0.length ≤ 1000000 ∧ a1 ≤ 1000000 then some (lz_unF (max 0 a1) (l0.length + 1) l0 []) else none
theorem lz_Unpack.calls (A0 : Option Addr) (c0 : Nat) (l0 : List Int) (a1 : Int) (r1 : List Int) (r2 : Int) (w : World) (hr0 : Kd.C (Kd.int .u8) w A0 l0.length l0) (hc0 : l0.length ≤ c0) (h : lz_Unpack.f l0 a1 = some (r1, r2)) :
    Calls Tryd.prog 26 #[.slice A0 l0.length c0, .int .i64 a1] w fun e w' => ∃ v0_ : Value, e = .returned (.tuple #[v0_, .int .i64 r2]) ∧ Kd.R (Kd.int .u8) 5 w' w.heap.size (fun _ => True) v0_ r1 ∧ Below w.heap.size w w' := by
  unfold lz_Unpack.f at h
  by_cases hd : wire_bytes l0 = true ∧ l0.length ≤ 1000000 ∧ a1 ≤ 1000000
  · rw [if_pos hd] at h
    exact lz_Unpack_calls A0 c0 l0 a1 w hr0 hc0 hd.2.1 hd.2.2 (lz_bytes_all hd.1) (r1, r2) (Option.some.inj h)
  · rw [if_neg hd] at h; cases h
theorem wire_lit {W : World} {g : Nat} {e : Nat} {fr : Nat × Nat} {l : List Int} (h : W.heap[g]? = some (.cells (l.map (Value.int .u8)).toArray e fr)) (hl : l.length ≤ 140737488355328) : Kd.C (Kd.int .u8) W (some ⟨g, 0, none⟩) l.length l := by
  refine ⟨rfl, by omega, fun _ => ⟨_, rfl, fun j p hj => ⟨[.int .u8 p], rfl, rfl, fun i u hi => ?_⟩⟩⟩
  have hi0 : i = 0 := by have := (List.getElem?_eq_some_iff.1 hi).1; simp at this; omega
  subst hi0
  rw [show j * (Kd.int .u8).sz + 0 = j by show j * 1 + 0 = j; omega, add_plain, cell_of_row W g j _ e fr h]
  simp at hi
  subst hi
  simp [hj]
end Go.Proofs.YtigcgdhihaibbaaDoor.PLz
