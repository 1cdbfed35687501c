import Derived.Test.YtocadookdkmahaaZW
namespace Go.Proofs.Ytocadookdkmahaa.VLz
open Go.RowKit Go.Proofs.Ytocadookdkmahaa.PLz Go.Proofs.YtocadookdkmahaaW.PrintWords Go.Proofs.YtocadookdkmahaaW.PrintLast Go.Proofs.YtocadookdkmahaaW.PrintMore
set_option linter.unusedVariables false
/-- what the row's proof knows of a slice of integers that came in -/
def IsRow (k : IntKind) (w : World) (a : Option Addr) (len cap : Nat) (zs : List Int) : Prop :=
  (a = none ∧ len = 0 ∧ cap = 0 ∧ zs = []) ∨
  ∃ x, a = some x ∧ len ≤ cap ∧ cap ≤ maxLen ∧ zs.length = cap ∧ (∀ i, i < zs.length → w.cell? (x.add i) = some (.int k (zs.getD i 0))) ∧ ∀ n ∈ zs, (Lit.int k n).wf = true
theorem row_u8 {n : Int} (h : (Lit.int .u8 n).wf = true) : 0 ≤ n ∧ n < 256 := by
  simp [Lit.wf, IntKind.min, IntKind.max, IntKind.bits, IntKind.signed] at h
  omega
theorem row_bytes {W : World} {A : Option Addr} {len cap : Nat} {zs : List Int} (h : IsRow .u8 W A len cap zs) :
    Kd.C (Kd.int .u8) W A len (zs.take len) ∧ (zs.take len).length = len ∧ len ≤ cap ∧ ∀ x ∈ zs.take len, 0 ≤ x ∧ x < 256 := by
  rcases h with ⟨rfl, rfl, rfl, rfl⟩ | ⟨x, rfl, hl, hm, hz, hc, hw⟩
  · exact ⟨Kd.C_nil _ _, rfl, Nat.le_refl _, fun x hx => by simp at hx⟩
  · have hlen : (zs.take len).length = len := by rw [List.length_take]; omega
    refine ⟨⟨hlen, by simp [maxLen] at hm; omega, fun _ => ⟨x, rfl, fun j p hj => ⟨[.int .u8 p], rfl, rfl, fun i u hi => ?_⟩⟩⟩, hlen, hl, fun y hy => row_u8 (hw y (List.mem_of_mem_take hy))⟩
    have hi0 : i = 0 := by have := (List.getElem?_eq_some_iff.1 hi).1; simp at this; omega
    subst hi0
    have hjl := (List.getElem?_eq_some_iff.1 hj).1
    rw [show j * (Kd.int .u8).sz + 0 = j by show j * 1 + 0 = j; omega, hc j (by omega)]
    simp at hi
    subst hi
    rw [List.getElem?_take_of_lt (by omega)] at hj
    rw [List.getD_eq_getElem?_getD, hj]
    rfl
end Go.Proofs.Ytocadookdkmahaa.VLz
