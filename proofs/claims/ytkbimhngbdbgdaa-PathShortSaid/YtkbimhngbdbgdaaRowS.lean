/- Path: the law PathShort: from the arguments' row to the walk. No condition. -/
import Derived.Test.YtkbimhngbdbgdaaShort
namespace Go.Proofs.Ytkbimhngbdbgdaa.PPathFinds
open Go.RowKit Go.Proofs.YtkbimhngbdbgdaaW.PrintWords Go.Proofs.YtkbimhngbdbgdaaW.PrintLast Go.Proofs.YtkbimhngbdbgdaaW.PrintMore
set_option linter.unusedVariables false
/-- what the row's proof knows of a slice of integers that came in -/
def IsRow (k : IntKind) (w : World) (a : Option Addr) (len cap : Nat) (zs : List Int) : Prop :=
  (a = none ∧ len = 0 ∧ cap = 0 ∧ zs = []) ∨
  ∃ x, a = some x ∧ len ≤ cap ∧ cap ≤ maxLen ∧ zs.length = cap ∧ (∀ i, i < zs.length → w.cell? (x.add i) = some (.int k (zs.getD i 0))) ∧ ∀ n ∈ zs, (Lit.int k n).wf = true
theorem row_ints {W : World} {A : Option Addr} {len cap : Nat} {zs : List Int} (h : IsRow .i64 W A len cap zs) :
    Kd.C (Kd.int .i64) W A len (zs.take len) ∧ (zs.take len).length = len ∧ len ≤ cap := by
  rcases h with ⟨rfl, rfl, rfl, rfl⟩ | ⟨x, rfl, hl, hm, hz, hc, hw⟩
  · exact ⟨Kd.C_nil _ _, rfl, Nat.le_refl _⟩
  · have hlen : (zs.take len).length = len := by rw [List.length_take]; omega
    refine ⟨⟨hlen, by simp [maxLen] at hm; omega, fun _ => ⟨x, rfl, fun j p hj => ⟨[.int .i64 p], rfl, rfl, fun i u hi => ?_⟩⟩⟩, hlen, hl⟩
    have hi0 : i = 0 := by have := (List.getElem?_eq_some_iff.1 hi).1; simp at this; omega
    subst hi0
    have hjl := (List.getElem?_eq_some_iff.1 hj).1
    rw [show j * (Kd.int .i64).sz + 0 = j by show j * 1 + 0 = j; omega, hc j (by omega)]
    simp at hi
    subst hi
    rw [List.getElem?_take_of_lt (by omega)] at hj
    rw [List.getD_eq_getElem?_getD, hj]
    rfl
theorem row_i64 {n : Int} (h : (Lit.int .i64 n).wf = true) : -9223372036854775808 ≤ n ∧ n ≤ 9223372036854775807 := by
  simp [Lit.wf, IntKind.min, IntKind.max, IntKind.bits, IntKind.signed] at h
  omega
theorem short_law (a b : Int) (s : ByteArray) (A0 : Option Addr) (n0 c0 : Nat) (zs0 : List Int) (from_ goal near : Int) (W : World) (h0 : IsRow .i64 W A0 n0 c0 zs0) (hn : (Lit.int .i64 near).wf = true) :
    Calls Try.prog 4 #[.int .i64 a, .int .i64 b, .string s, .slice A0 n0 c0, .int .i64 from_, .int .i64 goal, .int .i64 near] W fun e w' => e = .returned (.bool true) ∧ Below W.heap.size W w' := by
  obtain ⟨hC, hl, hlc⟩ := row_ints h0
  have := short_walk a b s A0 c0 (zs0.take n0) from_ goal near W (by rw [hl]; exact hC) (by omega) (row_i64 hn).2
  rwa [hl] at this
end Go.Proofs.Ytkbimhngbdbgdaa.PPathFinds
