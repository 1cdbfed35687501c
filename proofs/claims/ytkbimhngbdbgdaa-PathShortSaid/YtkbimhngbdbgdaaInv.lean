/- A region of open order by one relation over what is done so far: each operation is shown once, whatever came up before it. No condition. -/
import Derived.Test.YtkbimhngbdbgdaaHeap3
import Derived.Orders
import Derived.RegionTactic
namespace Go.Proofs.Ytkbimhngbdbgdaa.PPathFinds
open Go.RowKit Go.Proofs.YtkbimhngbdbgdaaW.PrintWords Go.Proofs.YtkbimhngbdbgdaaW.PrintLast Go.Proofs.YtkbimhngbdbgdaaW.PrintMore
attribute [local go_sem] max2_int min2_int max_two min_two max_three min_three max_four min_four   -- for this text's walks alone
set_option linter.unusedVariables false
set_option linter.unusedSimpArgs false
def upb (b : Nat → Bool) (i : Nat) : Nat → Bool := fun j => if j = i then true else b j
def depsOf (o : Oper) : List Nat := (o.after.toList.filter (Region.binds .any)).map (·.on)
/-- each operation waits for earlier ones alone -/
def depsOk : List Oper → Nat → Bool
  | [], _ => true
  | o :: r, k => (depsOf o).all (fun d => decide (d < k)) && depsOk r (k + 1)
section
variable {P : Program} {Q : Exit → Act → World → Prop}
def StepI (P : Program) (ops : Array Oper) (Q : Exit → Act → World → Prop) (J : (Nat → Bool) → Act → World → Prop) (i : Nat) (o : Oper) : Prop :=
  ∀ b a w, J b a w → b i = false → (∀ d, d ∈ depsOf o → b d = true) → ∀ K : Act → World → Prop, (∀ a' w', J (upb b i) a' w' → K a' w') → if Region.wanted o (yielded ops a.tmps) = true then o.wp P a w K Q else K (a.put o.dst undef) w
def StepsI (P : Program) (ops : Array Oper) (Q : Exit → Act → World → Prop) (J : (Nat → Bool) → Act → World → Prop) : List Oper → Nat → Prop
  | [], _ => True
  | o :: r, k => StepI P ops Q J k o ∧ StepsI P ops Q J r (k + 1)
theorem depsOk_at : ∀ {l : List Oper} {k i : Nat} {o : Oper}, depsOk l k = true → l[i]? = some o → ∀ d ∈ depsOf o, d < k + i
  | [], _, _, _, _, h => by simp at h
  | x :: r, k, 0, o, h, ho => by
    simp only [depsOk, Bool.and_eq_true, List.all_eq_true, decide_eq_true_eq] at h
    simp at ho; subst ho
    exact fun d hd => h.1 d hd
  | x :: r, k, i + 1, o, h, ho => by
    simp only [depsOk, Bool.and_eq_true] at h
    have := depsOk_at h.2 (by simpa using ho)
    intro d hd
    have := this d hd
    omega
theorem steps_at {ops : Array Oper} {J : (Nat → Bool) → Act → World → Prop} : ∀ {l : List Oper} {k i : Nat} {o : Oper}, StepsI P ops Q J l k → l[i]? = some o → StepI P ops Q J (k + i) o
  | [], _, _, _, _, h => by simp at h
  | x :: r, k, 0, o, h, ho => by
    simp at ho; subst ho
    exact h.1
  | x :: r, k, i + 1, o, h, ho => by
    have := steps_at h.2 (show r[i]? = some o by simpa using ho)
    rw [show k + (i + 1) = k + 1 + i by omega]
    exact this
theorem count_lt {p q : Nat → Bool} : ∀ {l : List Nat} {i : Nat}, i ∈ l → p i = true → q i = false → (∀ j, q j = true → p j = true) → (l.filter q).length < (l.filter p).length
  | [], _, h, _, _, _ => by cases h
  | x :: r, i, h, h1, h2, h3 => by
    have hle : ∀ (l : List Nat), (l.filter q).length ≤ (l.filter p).length := by
      intro l
      induction l with
      | nil => simp
      | cons y l ih =>
        rw [List.filter_cons, List.filter_cons]
        cases hq : q y
        · cases hp : p y <;> simp <;> omega
        · rw [h3 y hq]; simpa using ih
    rw [List.filter_cons, List.filter_cons]
    rcases List.mem_cons.1 h with rfl | h
    · rw [h1, h2]
      have := hle r
      simp; omega
    · have := count_lt h h1 h2 h3
      cases hq : q x
      · cases hp : p x <;> simp <;> omega
      · rw [h3 x hq]; simpa using this
theorem getD_tf {L : Array Bool} {j : Nat} (h : j < L.size) : L.getD j true = L.getD j false := by simp [h]
theorem wpAny_inv {ops : Array Oper} (J : (Nat → Bool) → Act → World → Prop) (hdep : depsOk ops.toList 0 = true) (hs : StepsI P ops Q J ops.toList 0)
    (hend : ∀ b a w, (∀ i, i < ops.size → b i = true) → J b a w → Q .normal a w) :
    ∀ (fuel : Nat) (L : Array Bool) (a : Act) (w : World), L.size = ops.size → ((List.range ops.size).filter fun j => !L.getD j false).length ≤ fuel → J (fun j => L.getD j false) a w → wpAny P .any ops Q fuel L a w := by
  have hfull : ∀ L : Array Bool, L.size = ops.size → Region.ready .any ops L = [] → ∀ i, i < ops.size → L.getD i false = true := by
    intro L hL hr i
    induction i using Nat.strongRecOn with
    | _ i ih =>
      intro hi
      cases h : L.getD i false with
      | true => rfl
      | false =>
        exfalso
        have ho : ops[i]? = some ops[i] := Array.getElem?_eq_getElem hi
        have : i ∈ Region.ready .any ops L := by
          rw [mem_ready]
          refine ⟨by rw [getD_tf (by omega)]; exact h, _, ho, fun e he hb => ?_⟩
          have hd := depsOk_at (i := i) (o := ops[i]) hdep (by simp) e.on (List.mem_map.2 ⟨e, List.mem_filter.2 ⟨by simp [he], hb⟩, rfl⟩)
          exact ih e.on (by omega) (by omega)
        rw [hr] at this
        cases this
  intro fuel
  induction fuel with
  | zero =>
    intro L a w hL hc hJ
    have hr : Region.ready .any ops L = [] := by
      refine List.eq_nil_iff_forall_not_mem.2 fun i hi => ?_
      obtain ⟨h0, o, ho, _⟩ := mem_ready.1 hi
      have hlt := (Array.getElem?_eq_some_iff.1 ho).1
      rw [getD_tf (by omega)] at h0
      have hin : i ∈ (List.range ops.size).filter fun j => !L.getD j false := List.mem_filter.2 ⟨List.mem_range.2 hlt, by rw [h0]; rfl⟩
      have := List.length_pos_of_mem hin
      omega
    exact ⟨hr, hend _ a w (hfull L hL hr) hJ⟩
  | succ fuel ih =>
    intro L a w hL hc hJ
    refine ⟨fun hr => hend _ a w (hfull L hL hr) hJ, fun i hi => ?_⟩
    obtain ⟨h0, o, ho, hd⟩ := mem_ready.1 hi
    have hlt := (Array.getElem?_eq_some_iff.1 ho).1
    rw [getD_tf (by omega)] at h0
    have hst := steps_at (i := i) (o := o) hs (by simpa using ho)
    rw [Nat.zero_add] at hst
    have heq : (fun j => (L.setIfInBounds i true).getD j false) = upb (fun j => L.getD j false) i := by
      funext j
      unfold upb
      by_cases hj : j = i
      · subst hj
        have : j < L.size := by omega
        simp [this]
      · rw [if_neg hj, getD_set_ne false (Ne.symm hj)]
    refine wpOp_step ho fun K hK => hst _ a w hJ h0 ?_ K fun a' w' hJ' => hK a' w' (ih _ a' w' (by simpa using hL) ?_ (by rw [heq]; exact hJ'))
    · intro d hdm
      obtain ⟨e, he, rfl⟩ := List.mem_map.1 hdm
      obtain ⟨he, hb⟩ := List.mem_filter.1 he
      exact hd e (by simpa using he) hb
    · have h1 : ∀ j, (!(L.setIfInBounds i true).getD j false) = !upb (fun j => L.getD j false) i j := fun j => by rw [← heq]
      simp only [h1]
      refine Nat.le_of_lt_succ (Nat.lt_of_lt_of_le (count_lt (i := i) (p := fun j => !L.getD j false) (List.mem_range.2 hlt) (by simp only [h0]; rfl) (by simp [upb]) fun j hj => ?_) hc)
      unfold upb at hj
      by_cases hji : j = i
      · simp [hji] at hj
      · simpa [hji] using hj
/-- the rule: J's first two are the frame and the world in which the region begins (behind its draw) -/
theorem wp_region_inv {id : Nat} {a : Act} {w : World} {l : List Oper} (J : Act → World → (Nat → Bool) → Act → World → Prop) (hm : P.follows .mixedOrders = true) (hdep : depsOk l 0 = true)
    (h0 : J a w.drew (fun _ => false) a w.drew) (hs : StepsI P l.toArray Q (J a w.drew) l 0)
    (hend : ∀ b a' w', (∀ i, i < l.length → b i = true) → J a w.drew b a' w' → Q .normal a' w') : (Code.region id l.toArray true).wp P Q a w := by
  refine wp_region_any hm ?_
  refine wpAny_inv (J a w.drew) hdep hs (by simpa using hend) _ _ a _ (by simp) (Nat.le_trans (List.length_filter_le _ _) (by simp)) ?_
  have : (fun j => (Array.replicate l.toArray.size false).getD j false) = fun _ => false := by
    funext j
    by_cases hj : j < l.length
    · simp [hj]
    · simp [hj]
  rw [this]
  exact h0
end
end Go.Proofs.Ytkbimhngbdbgdaa.PPathFinds
