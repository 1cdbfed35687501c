/- Chunk: the document's reading against the program's: one byte, four bytes. No program in sight. -/
import Derived.Test.YtigcgdhihaibbaaDoorKT4
namespace Go.Proofs.YtigcgdhihaibbaaDoor.PLz
open Go.Proofs.YtigcgdhihaibbaaDoor.PTk
open Go.RowKit Go.Proofs.YtigcgdhihaibbaaDoorW.PrintWords Go.Proofs.YtigcgdhihaibbaaDoorW.PrintLast
set_option linter.unusedVariables false
theorem byte_of {l : List Int} {p e x p2 e2 : Int} (h : ck_byte l p e = some (x, p2, e2)) : ∃ bs, wire_Reader_Bytes.f l p e 1 = some (bs, p2, e2) ∧ bs.getD 0 0 = x := by
  unfold ck_byte at h
  obtain ⟨⟨bs, p3, e3⟩, hb, h⟩ := Option.bind_eq_some_iff.1 h
  injection h with h
  simp only [Prod.mk.injEq] at h
  obtain ⟨h1, rfl, rfl⟩ := h
  exact ⟨bs, hb, h1⟩
theorem fixed_of {l : List Int} {p e x p2 e2 : Int} (h : wire_Reader_Fixed.f l p e = some (x, p2, e2)) : ∃ bs, wire_Reader_Bytes.f l p e 4 = some (bs, p2, e2) ∧ ck_num bs = x := by
  unfold wire_Reader_Fixed.f at h
  obtain ⟨⟨bs, p3, e3⟩, hb, h⟩ := Option.bind_eq_some_iff.1 h
  injection h with h
  simp only [Prod.mk.injEq] at h
  obtain ⟨h1, rfl, rfl⟩ := h
  exact ⟨bs, hb, h1⟩
/-- how many bytes were read; on an error none, and the place stays -/
theorem bytes_facts {l : List Int} {p e n p2 e2 : Int} {bs : List Int} (h : wire_Reader_Bytes.f l p e n = some (bs, p2, e2)) :
    (e2 = 0 → e = 0 ∧ 0 ≤ n ∧ (bs.length : Int) = n ∧ p2 = p + n ∧ p2 ≤ l.length) ∧ (e2 ≠ 0 → bs = [] ∧ p2 = p) := by
  unfold wire_Reader_Bytes.f at h
  split at h
  · rename_i he
    split at h
    · rename_i hd
      split at h
      · injection h with h
        simp only [Prod.mk.injEq] at h
        obtain ⟨rfl, rfl, rfl⟩ := h
        exact ⟨fun h => absurd h (by decide), fun _ => ⟨rfl, rfl⟩⟩
      · rename_i hn
        split at h
        · injection h with h
          simp only [Prod.mk.injEq] at h
          obtain ⟨rfl, rfl, rfl⟩ := h
          exact ⟨fun h => absurd h (by decide), fun _ => ⟨rfl, rfl⟩⟩
        · rename_i hs
          injection h with h
          simp only [Prod.mk.injEq] at h
          obtain ⟨rfl, rfl, rfl⟩ := h
          rw [List.length_drop] at hs
          refine ⟨fun _ => ⟨he, by omega, ?_, rfl, by omega⟩, fun h => absurd rfl h⟩
          rw [List.length_take, List.length_drop]
          omega
    · cases h
  · rename_i he
    injection h with h
    simp only [Prod.mk.injEq] at h
    obtain ⟨rfl, rfl, rfl⟩ := h
    exact ⟨fun h => absurd h he, fun _ => ⟨rfl, rfl⟩⟩
end Go.Proofs.YtigcgdhihaibbaaDoor.PLz
