import Derived.Test.YtfdbibddhneklabArW
import Derived.MapKept
import Derived.Carry
namespace Go.Proofs.Ytfdbibddhneklab.Arena
open Go.RowKit
set_option linter.unusedVariables false
set_option linter.unusedSimpArgs false
def mGet (m : List (Int × Value)) (k : Int) : Option Value := (m.find? (fun p => p.1 == k)).map (·.2)
def mDel (m : List (Int × Value)) (k : Int) : List (Int × Value) := m.eraseP (fun p => p.1 == k)
def mKv (e : MapEntry) : Value × Value := (e.key, e.val)
def mPv (p : Int × Value) : Value × Value := (.int .u16 p.1, p.2)
def IsMap (W : World) (g : Nat) (m : List (Int × Value)) : Prop := ∃ es clock, W.heap[g]? = some (.map es clock) ∧ es.toList.map mKv = m.map mPv
theorem find_none {k : Int} : ∀ {es : List MapEntry} {m : List (Int × Value)} (i : Nat), es.map mKv = m.map mPv → mGet m k = none → Instr.findNow (.int .u16) (.int .u16 k) es i = some none := by
  intro es
  induction es with
  | nil => intro m i h _; rfl
  | cons e es ih =>
    intro m i h hn
    cases m with
    | nil => simp at h
    | cons p m =>
      simp only [List.map_cons, List.cons.injEq, mKv, mPv, Prod.mk.injEq] at h
      obtain ⟨⟨h1, h2⟩, h3⟩ := h
      unfold mGet at hn
      rw [List.find?_cons] at hn
      by_cases hp : p.1 = k
      · simp [hp] at hn
      · have hb : (p.1 == k) = false := by simpa using hp
        have hc : (k == p.1) = false := by simpa using fun e => hp e.symm
        rw [hb] at hn
        unfold Instr.findNow
        rw [h1]
        simp only [Instr.sameNow, if_true, hc]
        exact ih (i + 1) (by simpa [mKv, mPv] using h3) hn
theorem find_some {k : Int} {v : Value} : ∀ {es : List MapEntry} {m : List (Int × Value)} (i : Nat), es.map mKv = m.map mPv → mGet m k = some v →
    ∃ j, Instr.findNow (.int .u16) (.int .u16 k) es i = some (some (i + j, v)) ∧ (es.eraseIdx j).map mKv = (mDel m k).map mPv := by
  intro es
  induction es with
  | nil =>
    intro m i h hs
    cases m with
    | nil => simp [mGet] at hs
    | cons p m => simp at h
  | cons e es ih =>
    intro m i h hs
    cases m with
    | nil => simp at h
    | cons p m =>
      have h' := h
      simp only [List.map_cons, List.cons.injEq, mKv, mPv, Prod.mk.injEq] at h
      obtain ⟨⟨h1, h2⟩, h3⟩ := h
      unfold mGet at hs
      rw [List.find?_cons] at hs
      by_cases hp : p.1 = k
      · have hb : (p.1 == k) = true := by simpa using hp
        have hc : (k == p.1) = true := by simpa using hp.symm
        rw [hb] at hs
        simp only [Option.map_some, Option.some.injEq] at hs
        refine ⟨0, ?_, ?_⟩
        · unfold Instr.findNow
          rw [h1]
          simp only [Instr.sameNow, if_true, hc, Nat.add_zero, h2, hs]
        · simp only [mDel, List.eraseP_cons, hb, List.eraseIdx_zero, List.tail_cons]
          simpa [mKv, mPv] using h3
      · have hb : (p.1 == k) = false := by simpa using hp
        have hc : (k == p.1) = false := by simpa using fun e => hp e.symm
        rw [hb] at hs
        obtain ⟨j, hj1, hj2⟩ := ih (i + 1) (by simpa [mKv, mPv] using h3) hs
        refine ⟨j + 1, ?_, ?_⟩
        · unfold Instr.findNow
          rw [h1]
          simp only [Instr.sameNow, if_true, hc]
          rw [hj1, show i + 1 + j = i + (j + 1) by omega]
        · simp only [mDel, List.eraseP_cons, hb, List.eraseIdx_cons_succ, List.map_cons]
          rw [hj2]
          simp [mKv, mPv, h1, h2, mDel]
theorem rgo {P : Program} {W : World} {g : Nat} {es : Array MapEntry} {c : Nat} (hb : W.heap[g]? = some (.map es c)) : (getObj g).run P W = .ok (.map es c) W := by simp [getObj, Sem.run, hb]
theorem rso {P : Program} {W : World} {g : Nat} {es : Array MapEntry} {c : Nat} (o : Obj) (hb : W.heap[g]? = some (.map es c)) : (setObj g o).run P W = .ok () { W with heap := W.heap.setIfInBounds g o } := by simp [setObj, Sem.run, hb]
theorem run_find {W : World} {es : List MapEntry} {k : Int} {r : Option (Nat × Value)} (h : Instr.findNow (.int .u16) (.int .u16 k) es 0 = some r) : (Instr.findKey 24 (.int .u16 k) es).run Try.prog W = .ok r W := by
  unfold Instr.findKey
  simp only [Sem.run_bind, run_underlying Try.underlying24 W, Result.andThen_ok, h, Sem.run_pure]
theorem run_check {W : World} {k : Int} (e : Bool) : (Instr.checkKey e 10000 24 (.int .u16 k)).run Try.prog W = .ok () W := by
  unfold Instr.checkKey
  simp only [Sem.run_bind, run_underlying Try.underlying24 W, Result.andThen_ok, Sem.run_pure]
theorem map_lookup30 {W : World} {g : Nat} {m : List (Int × Value)} (h : IsMap W g m) (k : Int) : (Instr.lookup 30 (.map (some g)) (.int .u16 k) false).run Try.prog W = .ok ((mGet m k).getD (.bool false)) W := by
  obtain ⟨es, c, hb, hm⟩ := h
  have hz : (zeroValue 4).run Try.prog W = .ok (.bool false) W := by kernel_rfl
  unfold Instr.lookup
  cases hg : mGet m k with
  | none =>
    simp only [Sem.run_bind, run_underlying Try.underlying30 W, Result.andThen_ok, rgo hb, Sem.run_pure, run_check, run_find (find_none 0 hm hg), hz]
    rfl
  | some v =>
    obtain ⟨j, hj, _⟩ := find_some 0 hm hg
    simp only [Sem.run_bind, run_underlying Try.underlying30 W, Result.andThen_ok, rgo hb, Sem.run_pure, run_check, run_find hj]
    rfl
theorem map_lookup31 {W : World} {g : Nat} {m : List (Int × Value)} (h : IsMap W g m) (k : Int) : (Instr.lookup 31 (.map (some g)) (.int .u16 k) true).run Try.prog W = .ok (.tuple #[(mGet m k).getD (.int .i64 0), .bool (mGet m k).isSome]) W := by
  obtain ⟨es, c, hb, hm⟩ := h
  have hz : (zeroValue 3).run Try.prog W = .ok (.int .i64 0) W := by kernel_rfl
  unfold Instr.lookup
  cases hg : mGet m k with
  | none =>
    simp only [Sem.run_bind, run_underlying Try.underlying31 W, Result.andThen_ok, rgo hb, Sem.run_pure, run_check, run_find (find_none 0 hm hg), hz]
    rfl
  | some v =>
    obtain ⟨j, hj, _⟩ := find_some 0 hm hg
    simp only [Sem.run_bind, run_underlying Try.underlying31 W, Result.andThen_ok, rgo hb, Sem.run_pure, run_check, run_find hj]
    rfl
/-- all blocks but g lie as they lay -/
structure But (W W' : World) (g : Nat) : Prop where
  os : W'.os = W.os
  tape : W'.tape = W.tape
  output : W'.output = W.output
  size : W'.heap.size = W.heap.size
  block : ∀ k, k ≠ g → W'.heap[k]? = W.heap[k]?
theorem but_set (W : World) (g : Nat) (o : Obj) : But W { W with heap := W.heap.setIfInBounds g o } g :=
  ⟨rfl, rfl, rfl, by simp, fun k hk => by simp [Array.getElem?_setIfInBounds, show ¬ g = k from fun e => hk e.symm]⟩
theorem map_put {W : World} {g t : Nat} {et : TypeId} {m : List (Int × Value)} (ht : Try.prog.underlying t = some (.map 24 et)) (h : IsMap W g m) (k : Int) (v : Value) (hn : mGet m k = none) :
    ∃ W', (Instr.mapUpdate t (.map (some g)) (.int .u16 k) v).run Try.prog W = .ok () W' ∧ IsMap W' g (m ++ [(k, v)]) ∧ But W W' g := by
  obtain ⟨es, c, hb, hm⟩ := h
  refine ⟨_, ?_, ⟨es.push { key := .int .u16 k, val := v, born := c }, c + 1, ?_, ?_⟩, but_set W g (.map (es.push { key := .int .u16 k, val := v, born := c }) (c + 1))⟩
  · unfold Instr.mapUpdate
    simp only [Sem.run_bind, run_underlying ht W, Result.andThen_ok, rgo hb, Sem.run_pure, run_check, run_find (find_none 0 hm hn), rso _ hb]
  · have hlt : g < W.heap.size := (Array.getElem?_eq_some_iff.1 hb).1
    simp [hlt]
  · simp [hm, mKv, mPv]
theorem map_del {W : World} {g : Nat} {m : List (Int × Value)} (ty : TypeId) (h : IsMap W g m) (k : Int) :
    ∃ W', (Builtin.delete_ #[31, 24] ty #[.map (some g), .int .u16 k]).run Try.prog W = .ok (.tuple #[]) W' ∧ IsMap W' g (mDel m k) ∧ But W W' g := by
  obtain ⟨es, c, hb, hm⟩ := h
  have hlt : g < W.heap.size := (Array.getElem?_eq_some_iff.1 hb).1
  cases hg : mGet m k with
  | none =>
    refine ⟨_, ?_, ⟨es, c, ?_, ?_⟩, but_set W g (.map es c)⟩
    · unfold Builtin.delete_
      simp only [List.getElem?_toArray, List.getElem?_cons_zero, List.getElem?_cons_succ, Sem.run_bind, run_underlying Try.underlying31 W, Result.andThen_ok, rgo hb, Sem.run_pure, run_check, run_find (find_none 0 hm hg), rso _ hb]
    · simp [hlt]
    · rw [hm]
      congr 1
      unfold mDel
      rw [List.eraseP_of_forall_not]
      intro a ha hk
      unfold mGet at hg
      simp only [Option.map_eq_none_iff, List.find?_eq_none] at hg
      exact hg a ha hk
  | some v =>
    obtain ⟨j, hj, he⟩ := find_some 0 hm hg
    rw [Nat.zero_add] at hj
    refine ⟨_, ?_, ⟨es.eraseIdxIfInBounds j, c, ?_, ?_⟩, but_set W g (.map (es.eraseIdxIfInBounds j) c)⟩
    · unfold Builtin.delete_
      simp only [List.getElem?_toArray, List.getElem?_cons_zero, List.getElem?_cons_succ, Sem.run_bind, run_underlying Try.underlying31 W, Result.andThen_ok, rgo hb, Sem.run_pure, run_check, run_find hj, rso _ hb]
    · simp [hlt]
    · rw [← he]
      congr 1
      unfold Array.eraseIdxIfInBounds
      split
      · simp
      · rename_i hj2
        rw [List.eraseIdx_of_length_le (by simpa using hj2)]
theorem map_len {W : World} {g : Nat} {m : List (Int × Value)} (ty : TypeId) (h : IsMap W g m) : (Builtin.len_ #[31] ty #[.map (some g)]).run Try.prog W = .ok (.int .i64 m.length) W := by
  obtain ⟨es, c, hb, hm⟩ := h
  have hl : es.size = m.length := by have := congrArg List.length hm; simpa using this
  unfold Builtin.len_
  simp [Sem.run_bind, rgo hb, goInt, hl]
end Go.Proofs.Ytfdbibddhneklab.Arena
