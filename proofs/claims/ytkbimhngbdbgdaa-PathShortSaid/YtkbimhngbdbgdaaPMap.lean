/- Path: maps whose keys are whole numbers, told by what each key holds. No condition. -/
import Derived.Test.YtkbimhngbdbgdaaHeap5
import Derived.MapKept
import Derived.Carry
namespace Go.Proofs.Ytkbimhngbdbgdaa.PPathFinds
open Go.RowKit
set_option linter.unusedVariables false
set_option linter.unusedSimpArgs false
def mGet (m : List (Int × Value)) (k : Int) : Option Value := (m.find? (fun p => p.1 == k)).map (·.2)
def mKv (e : MapEntry) : Value × Value := (e.key, e.val)
def mPv (p : Int × Value) : Value × Value := (.int .i64 p.1, p.2)
def mUp (f : Int → Option Value) (k : Int) (v : Value) : Int → Option Value := fun j => if j = k then some v else f j
/-- block g is a map that holds f -/
def MapIs (W : World) (g : Nat) (f : Int → Option Value) : Prop := ∃ es clock m, W.heap[g]? = some (.map es clock) ∧ es.toList.map mKv = m.map mPv ∧ ∀ k, mGet m k = f k
theorem find_none {k : Int} : ∀ {es : List MapEntry} {m : List (Int × Value)} (i : Nat), es.map mKv = m.map mPv → mGet m k = none → Instr.findNow (.int .i64) (.int .i64 k) es i = some none := by
  intro es
  induction es with
  | nil => intro m i h _; rfl
  | cons e es ih =>
    intro m i h hn
    cases m with
    | nil => simp at h
    | cons p m =>
      simp only [List.map_cons, List.cons.injEq, mKv, mPv, Prod.mk.injEq] at h
      obtain ⟨⟨h1, h2⟩, h3⟩ := h
      unfold mGet at hn
      rw [List.find?_cons] at hn
      by_cases hp : p.1 = k
      · simp [hp] at hn
      · have hb : (p.1 == k) = false := by simpa using hp
        have hc : (k == p.1) = false := by simpa using fun e => hp e.symm
        rw [hb] at hn
        unfold Instr.findNow
        rw [h1]
        simp only [Instr.sameNow, if_true, hc]
        exact ih (i + 1) (by simpa [mKv, mPv] using h3) hn
theorem find_some {k : Int} {v u : Value} : ∀ {es : List MapEntry} {m : List (Int × Value)} (i : Nat), es.map mKv = m.map mPv → mGet m k = some v →
    ∃ j m', Instr.findNow (.int .i64) (.int .i64 k) es i = some (some (i + j, v)) ∧ (es[j]?).map (·.key) = some (.int .i64 k) ∧ (es.modify j fun e => { e with key := .int .i64 k, val := u }).map mKv = m'.map mPv ∧ ∀ x, mGet m' x = if x = k then some u else mGet m x := by
  intro es
  induction es with
  | nil =>
    intro m i h hs
    cases m with
    | nil => simp [mGet] at hs
    | cons p m => simp at h
  | cons e es ih =>
    intro m i h hs
    cases m with
    | nil => simp at h
    | cons p m =>
      have h' := h
      simp only [List.map_cons, List.cons.injEq, mKv, mPv, Prod.mk.injEq] at h
      obtain ⟨⟨h1, h2⟩, h3⟩ := h
      unfold mGet at hs
      rw [List.find?_cons] at hs
      by_cases hp : p.1 = k
      · have hb : (p.1 == k) = true := by simpa using hp
        have hc : (k == p.1) = true := by simpa using hp.symm
        rw [hb] at hs
        simp only [Option.map_some, Option.some.injEq] at hs
        refine ⟨0, (k, u) :: m, ?_, ?_, ?_, ?_⟩
        · unfold Instr.findNow
          rw [h1]
          simp only [Instr.sameNow, if_true, hc, Nat.add_zero, h2, hs]
        · simp [h1, hp]
        · simp only [List.modify_zero_cons, List.map_cons, mKv, mPv]
          congr 1
        · intro x
          unfold mGet
          rw [List.find?_cons, List.find?_cons]
          by_cases hx : x = k
          · subst hx; simp
          · have e1 : (k == x) = false := by simpa using fun e => hx e.symm
            have e2 : (p.1 == x) = false := by rw [hp]; exact e1
            rw [e1, e2, if_neg hx]
      · have hb : (p.1 == k) = false := by simpa using hp
        have hc : (k == p.1) = false := by simpa using fun e => hp e.symm
        rw [hb] at hs
        obtain ⟨j, m', hj1, hj2, hj3, hj4⟩ := ih (i + 1) (by simpa [mKv, mPv] using h3) hs
        refine ⟨j + 1, p :: m', ?_, ?_, ?_, ?_⟩
        · unfold Instr.findNow
          rw [h1]
          simp only [Instr.sameNow, if_true, hc]
          rw [hj1, show i + 1 + j = i + (j + 1) by omega]
        · simpa using hj2
        · simp only [List.modify_succ_cons, List.map_cons]
          rw [hj3]
          simp [mKv, mPv, h1, h2]
        · intro x
          have := hj4 x
          unfold mGet at this ⊢
          rw [List.find?_cons, List.find?_cons]
          by_cases hx : p.1 = x
          · have e1 : (p.1 == x) = true := by simpa using hx
            rw [e1, if_neg (by rw [← hx]; exact hp)]
          · have e1 : (p.1 == x) = false := by simpa using hx
            rw [e1]; exact this
theorem rgo {P : Program} {W : World} {g : Nat} {es : Array MapEntry} {c : Nat} (hb : W.heap[g]? = some (.map es c)) : (getObj g).run P W = .ok (.map es c) W := by simp [getObj, Sem.run, hb]
theorem rso {P : Program} {W : World} {g : Nat} {es : Array MapEntry} {c : Nat} (o : Obj) (hb : W.heap[g]? = some (.map es c)) : (setObj g o).run P W = .ok () { W with heap := W.heap.setIfInBounds g o } := by simp [setObj, Sem.run, hb]
theorem run_find {W : World} {es : List MapEntry} {k : Int} {r : Option (Nat × Value)} (h : Instr.findNow (.int .i64) (.int .i64 k) es 0 = some r) : (Instr.findKey 3 (.int .i64 k) es).run Try.prog W = .ok r W := by
  unfold Instr.findKey
  simp only [Sem.run_bind, run_underlying Try.underlying3 W, Result.andThen_ok, h, Sem.run_pure]
theorem run_check {W : World} {k : Int} (e : Bool) : (Instr.checkKey e 10000 3 (.int .i64 k)).run Try.prog W = .ok () W := by
  unfold Instr.checkKey
  simp only [Sem.run_bind, run_underlying Try.underlying3 W, Result.andThen_ok, Sem.run_pure]
theorem map_lookup {W : World} {g t : Nat} {et : TypeId} {f : Int → Option Value} {z : Value} (ht : Try.prog.underlying t = some (.map 3 et)) (hz : (zeroValue et).run Try.prog W = .ok z W) (h : MapIs W g f) (k : Int) :
    (Instr.lookup t (.map (some g)) (.int .i64 k) false).run Try.prog W = .ok ((f k).getD z) W := by
  obtain ⟨es, c, m, hb, hm, hf⟩ := h
  unfold Instr.lookup
  rw [← hf]
  cases hg : mGet m k with
  | none =>
    simp only [Sem.run_bind, run_underlying ht W, Result.andThen_ok, rgo hb, Sem.run_pure, run_check, run_find (find_none 0 hm hg), hz]
    rfl
  | some v =>
    obtain ⟨j, _, hj, _⟩ := find_some (u := .nilFunc) 0 hm hg
    simp only [Sem.run_bind, run_underlying ht W, Result.andThen_ok, rgo hb, Sem.run_pure, run_check, run_find hj]
    rfl
theorem map_lookup_ok {W : World} {g t : Nat} {et : TypeId} {f : Int → Option Value} {z : Value} (ht : Try.prog.underlying t = some (.map 3 et)) (hz : (zeroValue et).run Try.prog W = .ok z W) (h : MapIs W g f) (k : Int) :
    (Instr.lookup t (.map (some g)) (.int .i64 k) true).run Try.prog W = .ok (.tuple #[(f k).getD z, .bool (f k).isSome]) W := by
  obtain ⟨es, c, m, hb, hm, hf⟩ := h
  unfold Instr.lookup
  rw [← hf]
  cases hg : mGet m k with
  | none =>
    simp only [Sem.run_bind, run_underlying ht W, Result.andThen_ok, rgo hb, Sem.run_pure, run_check, run_find (find_none 0 hm hg), hz]
    rfl
  | some v =>
    obtain ⟨j, _, hj, _⟩ := find_some (u := .nilFunc) 0 hm hg
    simp only [Sem.run_bind, run_underlying ht W, Result.andThen_ok, rgo hb, Sem.run_pure, run_check, run_find hj]
    rfl
/-- all blocks but g lie as they lay -/
structure But (W W' : World) (g : Nat) : Prop where
  os : W'.os = W.os
  tape : W'.tape = W.tape
  output : W'.output = W.output
  size : W'.heap.size = W.heap.size
  block : ∀ k, k ≠ g → W'.heap[k]? = W.heap[k]?
theorem but_set (W : World) (g : Nat) (o : Obj) : But W { W with heap := W.heap.setIfInBounds g o } g :=
  ⟨rfl, rfl, rfl, by simp, fun k hk => by simp [Array.getElem?_setIfInBounds, show ¬ g = k from fun e => hk e.symm]⟩
theorem map_put {W : World} {g t : Nat} {et : TypeId} {f : Int → Option Value} (ht : Try.prog.underlying t = some (.map 3 et)) (h : MapIs W g f) (k : Int) (v : Value) :
    ∃ W', (Instr.mapUpdate t (.map (some g)) (.int .i64 k) v).run Try.prog W = .ok () W' ∧ MapIs W' g (mUp f k v) ∧ But W W' g := by
  obtain ⟨es, c, m, hb, hm, hf⟩ := h
  have hlt : g < W.heap.size := (Array.getElem?_eq_some_iff.1 hb).1
  cases hg : mGet m k with
  | none =>
    refine ⟨_, ?_, ⟨es.push { key := .int .i64 k, val := v, born := c }, c + 1, m ++ [(k, v)], ?_, ?_, ?_⟩, but_set W g (.map (es.push { key := .int .i64 k, val := v, born := c }) (c + 1))⟩
    · unfold Instr.mapUpdate
      simp only [Sem.run_bind, run_underlying ht W, Result.andThen_ok, rgo hb, Sem.run_pure, run_check, run_find (find_none 0 hm hg), rso _ hb]
    · simp [hlt]
    · simp [hm, mKv, mPv]
    · intro j
      unfold mGet mUp
      rw [List.find?_append]
      by_cases hj : j = k
      · subst hj
        unfold mGet at hg
        rw [Option.map_eq_none_iff] at hg
        rw [hg, if_pos rfl]
        simp
      · rw [if_neg hj, ← hf]
        have e1 : (k == j) = false := by simpa using fun e => hj e.symm
        unfold mGet
        cases hq : m.find? (fun p => p.1 == j) with
        | none => simp [e1]
        | some p => simp
  | some old =>
    obtain ⟨j, m', hj, hk, hm', hmf⟩ := find_some (u := v) 0 hm hg
    rw [Nat.zero_add] at hj
    have hk2 : (es[j]?).map (·.key) = some (.int .i64 k) := by simpa using hk
    refine ⟨_, ?_, ⟨es.modify j fun e => { e with key := .int .i64 k, val := v }, c, m', ?_, ?_, ?_⟩, but_set W g (.map (es.modify j fun e => { e with key := .int .i64 k, val := v }) c)⟩
    · unfold Instr.mapUpdate
      simp only [Sem.run_bind, run_underlying ht W, Result.andThen_ok, rgo hb, Sem.run_pure, run_check, run_find hj, hk2, Option.getD_some, Instr.keyThatStays]
      rw [if_pos (by simp [Instr.sameBits])]
      simp only [Sem.run_pure, Result.andThen_ok, rso _ hb]
    · simp [hlt]
    · rw [Array.toList_modify]; exact hm'
    · intro x
      rw [hmf, hf]
      rfl
theorem map_new (W : World) : MapIs (W.alloc (.map #[] 0)) W.heap.size (fun _ => none) := ⟨#[], 0, [], heap_alloc_new _ _, rfl, fun _ => rfl⟩
theorem MapIs.keep {W W' : World} {g : Nat} {f : Int → Option Value} (h : MapIs W g f) (hk : W'.heap[g]? = W.heap[g]?) : MapIs W' g f := by
  obtain ⟨es, c, m, hb, hm, hf⟩ := h
  exact ⟨es, c, m, hk.trans hb, hm, hf⟩
theorem MapIs.lt {W : World} {g : Nat} {f : Int → Option Value} (h : MapIs W g f) : g < W.heap.size := by
  obtain ⟨es, c, m, hb, hm, hf⟩ := h
  exact (Array.getElem?_eq_some_iff.1 hb).1
theorem MapIs.ne_cells {W : World} {g k : Nat} {f : Int → Option Value} {cs : Array Value} {t : TypeId} {x : Nat × Nat} (h : MapIs W g f) (hk : W.heap[k]? = some (.cells cs t x)) : k ≠ g := by
  obtain ⟨es, c, m, hb, hm, hf⟩ := h
  rintro rfl
  rw [hb] at hk
  cases hk
end Go.Proofs.Ytkbimhngbdbgdaa.PPathFinds
