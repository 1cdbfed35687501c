/- GridSteps: distance is the least number of steps, and Around are just those whose distance is not greater: what the law computes, in plain Lean. No condition. -/
import Derived.Test.YtfdbibddhneklabPGridStepsx5
namespace Go.Proofs.Ytfdbibddhneklab.Pure
namespace BfsP
structure World where
  N : Nat
  start : Nat
  nb : Nat → List Nat
  d : Nat → Nat
  hs : start < N
  d0 : d start = 0
  zero : ∀ v, v < N → d v = 0 → v = start
  near : ∀ v, v < N → ∀ l ∈ nb v, l < N ∧ (d l = d v + 1 ∨ d v = d l + 1)
  from_ : ∀ v, v < N → 0 < d v → ∃ j, j < N ∧ d j + 1 = d v ∧ v ∈ nb j
variable (W : World)
def vis (st : List Int) (v : Nat) : Prop := v = W.start ∨ st.getD v 0 ≠ 0
instance (st : List Int) (v : Nat) : Decidable (vis W st v) := by unfold vis; exact inferInstance
def unv (st : List Int) : Nat := (List.range W.N).countP fun v => !decide (vis W st v)

theorem getD_set (st : List Int) (l v : Nat) (x : Int) (hl : l < st.length) : (st.set l x).getD v 0 = if v = l then x else st.getD v 0 := by
  simp only [List.getD_eq_getElem?_getD, List.getElem?_set]
  by_cases h : v = l
  · subst h; simp [hl]
  · rw [if_neg (fun e => h e.symm), if_neg h]

/-- facts that stand at every place -/
structure Base (st : List Int) (q : List Nat) : Prop where
  len : st.length = W.N
  a : ∀ v, v < W.N → vis W st v → st.getD v 0 = W.d v
  b : ∀ v ∈ q, v < W.N ∧ vis W st v

/-- at the head of the loop over the queue -/
structure Outer (st : List Int) (q : List Nat) : Prop extends Base W st q where
  sorted : ∀ i r, q = i :: r → ∃ q1 q2, r = q1 ++ q2 ∧ (∀ v ∈ q1, W.d v = W.d i) ∧ (∀ v ∈ q2, W.d v = W.d i + 1) ∧ ∀ v, v < W.N → W.d v ≤ W.d i → vis W st v
  done : ∀ v, v < W.N → vis W st v → v ∉ q → ∀ l ∈ W.nb v, vis W st l

/-- place i is looked at, of its neighbours those of pend are still to come -/
structure Inner (i : Nat) (pend : List Nat) (st : List Int) (q : List Nat) : Prop extends Base W st q where
  hi : i < W.N
  vi : vis W st i
  sub : ∀ l ∈ pend, l ∈ W.nb i
  sorted : ∃ q1 q2, q = q1 ++ q2 ∧ (∀ v ∈ q1, W.d v = W.d i) ∧ (∀ v ∈ q2, W.d v = W.d i + 1)
  low : ∀ v, v < W.N → W.d v ≤ W.d i → vis W st v
  done : ∀ v, v < W.N → vis W st v → v ∉ q → v ≠ i → ∀ l ∈ W.nb v, vis W st l
  mine : ∀ l ∈ W.nb i, l ∈ pend ∨ vis W st l

theorem begin_ (st : List Int) (hl : st.length = W.N) (hz : ∀ v, v < W.N → st.getD v 0 = 0) : Outer W st [W.start] where
  len := hl
  a := fun v hv h => by
    rcases h with rfl | h
    · rw [hz _ hv, W.d0]; rfl
    · exact absurd (hz v hv) h
  b := fun v hv => by
    obtain rfl := List.mem_singleton.1 hv
    exact ⟨W.hs, .inl rfl⟩
  sorted := fun i r h => by
    simp only [List.cons.injEq] at h
    obtain ⟨rfl, rfl⟩ := h
    refine ⟨[], [], rfl, by simp, by simp, fun v hv h => ?_⟩
    rw [W.d0] at h
    exact .inl (W.zero v hv (by omega))
  done := fun v hv h hq => by
    rcases h with rfl | h
    · exact absurd (List.mem_singleton.2 rfl) hq
    · exact absurd (hz v hv) h

theorem pop {st : List Int} {i : Nat} {r : List Nat} (h : Outer W st (i :: r)) : Inner W i (W.nb i) st r := by
  obtain ⟨q1, q2, rfl, h1, h2, h3⟩ := h.sorted i r rfl
  have hb := h.b i (by simp)
  exact {
    len := h.len
    a := h.a
    b := fun v hv => h.b v (List.mem_cons_of_mem _ hv)
    hi := hb.1
    vi := hb.2
    sub := fun _ h => h
    sorted := ⟨q1, q2, rfl, h1, h2⟩
    low := h3
    done := fun v hv hvis hq hne => h.done v hv hvis (by simp only [List.mem_cons, not_or]; exact ⟨hne, hq⟩)
    mine := fun _ hl => .inl hl }

theorem skip {st : List Int} {i l : Nat} {pend q : List Nat} (h : Inner W i (l :: pend) st q) (hv : vis W st l) : Inner W i pend st q :=
  { h with
    sub := fun x hx => h.sub x (List.mem_cons_of_mem _ hx)
    mine := fun x hx => by
      rcases h.mine x hx with hm | hm
      · rcases List.mem_cons.1 hm with rfl | hm
        · exact .inr hv
        · exact .inl hm
      · exact .inr hm }

theorem vis_set {st : List Int} {l : Nat} {x : Int} (hl : l < st.length) (hx : x ≠ 0) {v : Nat} : vis W (st.set l x) v ↔ (v = l ∨ vis W st v) := by
  unfold vis
  rw [getD_set _ _ _ _ hl]
  by_cases h : v = l
  · simp [h, hx]
  · simp [h]

theorem push {st : List Int} {i l : Nat} {pend q : List Nat} (h : Inner W i (l :: pend) st q) (hv : ¬ vis W st l) :
    st.getD i 0 + 1 = ((W.d i + 1 : Nat) : Int) ∧ Inner W i pend (st.set l (st.getD i 0 + 1)) (q ++ [l]) := by
  have hi := h.a i h.hi h.vi
  obtain ⟨hl, hd⟩ := W.near i h.hi l (h.sub l (by simp))
  have hdl : W.d l = W.d i + 1 := by
    rcases hd with hd | hd
    · exact hd
    · exact absurd (h.low l hl (by omega)) hv
  have hx : st.getD i 0 + 1 = ((W.d i + 1 : Nat) : Int) := by rw [hi]; rfl
  refine ⟨hx, ?_⟩
  rw [hx]
  have hlen : l < st.length := by rw [h.len]; exact hl
  have hne : ((W.d i + 1 : Nat) : Int) ≠ 0 := by omega
  have hvs : ∀ v, vis W (st.set l ((W.d i + 1 : Nat) : Int)) v ↔ (v = l ∨ vis W st v) := fun v => vis_set W hlen hne
  exact {
    len := by rw [List.length_set]; exact h.len
    a := fun v hvN hvv => by
      rw [getD_set _ _ _ _ hlen]
      by_cases e : v = l
      · subst e; rw [if_pos rfl, hdl]
      · rw [if_neg e]
        rcases (hvs v).1 hvv with e' | hvv
        · exact absurd e' e
        · exact h.a v hvN hvv
    b := fun v hvq => by
      rcases List.mem_append.1 hvq with hvq | hvq
      · exact ⟨(h.b v hvq).1, (hvs v).2 (.inr (h.b v hvq).2)⟩
      · obtain rfl := List.mem_singleton.1 hvq
        exact ⟨hl, (hvs v).2 (.inl rfl)⟩
    hi := h.hi
    vi := (hvs i).2 (.inr h.vi)
    sub := fun x hx => h.sub x (List.mem_cons_of_mem _ hx)
    sorted := by
      obtain ⟨q1, q2, rfl, h1, h2⟩ := h.sorted
      refine ⟨q1, q2 ++ [l], by simp, h1, fun v hv2 => ?_⟩
      rcases List.mem_append.1 hv2 with hv2 | hv2
      · exact h2 v hv2
      · obtain rfl := List.mem_singleton.1 hv2
        exact hdl
    low := fun v hvN hvd => (hvs v).2 (.inr (h.low v hvN hvd))
    done := fun v hvN hvv hq hne2 x hx2 => by
      simp only [List.mem_append, List.mem_singleton, not_or] at hq
      rcases (hvs v).1 hvv with e | hvv
      · exact absurd e hq.2
      · exact (hvs x).2 (.inr (h.done v hvN hvv hq.1 hne2 x hx2))
    mine := fun x hx2 => by
      rcases h.mine x hx2 with hm | hm
      · rcases List.mem_cons.1 hm with rfl | hm
        · exact .inr ((hvs x).2 (.inl rfl))
        · exact .inl hm
      · exact .inr ((hvs x).2 (.inr hm)) }

theorem next_ {st : List Int} {i : Nat} {q : List Nat} (h : Inner W i [] st q) : Outer W st q where
  len := h.len
  a := h.a
  b := h.b
  sorted := fun j r hq => by
    obtain ⟨q1, q2, hq12, h1, h2⟩ := h.sorted
    cases q1 with
    | cons x q1 =>
      rw [hq] at hq12
      simp only [List.cons_append, List.cons.injEq] at hq12
      obtain ⟨rfl, rfl⟩ := hq12
      have e := h1 j (by simp)
      exact ⟨q1, q2, rfl, fun v hv => by rw [e]; exact h1 v (by simp [hv]), fun v hv => by rw [e]; exact h2 v hv, fun v hv hd => h.low v hv (by omega)⟩
    | nil =>
      simp only [List.nil_append] at hq12
      rw [hq] at hq12
      subst hq12
      have e := h2 j (by simp)
      refine ⟨r, [], by simp, fun v hv => by rw [e]; exact h2 v (by simp [hv]), by simp, fun v hv hd => ?_⟩
      by_cases g : W.d v ≤ W.d i
      · exact h.low v hv g
      · obtain ⟨k, hk, hdk, hm⟩ := W.from_ v hv (by omega)
        have hkv := h.low k hk (by omega)
        by_cases ek : k = i
        · subst ek
          rcases h.mine v hm with hc | hc
          · cases hc
          · exact hc
        · refine h.done k hk hkv (fun hkq => ?_) ek v hm
          rw [hq] at hkq
          have := h2 k hkq
          omega
  done := fun v hv hvv hq l hl => by
    by_cases e : v = i
    · subst e
      rcases h.mine l hl with hc | hc
      · cases hc
      · exact hc
    · exact h.done v hv hvv hq e l hl

theorem finish {st : List Int} (h : Outer W st []) : ∀ v, v < W.N → st.getD v 0 = W.d v := by
  have key : ∀ n v, v < W.N → W.d v ≤ n → vis W st v := by
    intro n
    induction n with
    | zero => intro v hv hd; exact .inl (W.zero v hv (by omega))
    | succ n ih =>
      intro v hv hd
      by_cases g : W.d v = 0
      · exact .inl (W.zero v hv g)
      · obtain ⟨k, hk, hdk, hm⟩ := W.from_ v hv (by omega)
        exact h.done k hk (ih k hk (by omega)) (by simp) v hm
  exact fun v hv => h.a v hv (key _ v hv (Nat.le_refl _))

/-- what is pushed is taken from what is not visited -/
theorem countP_lt {α : Type} (p p' : α → Bool) (l : List α) (x : α) (hx : x ∈ l) (h : ∀ y, p' y = true → p y = true) (hp : p x = true) (hp' : p' x = false) : l.countP p' + 1 ≤ l.countP p := by
  induction l with
  | nil => cases hx
  | cons y l ih =>
    simp only [List.countP_cons]
    have hmono : l.countP p' ≤ l.countP p := List.countP_mono_left (fun z _ => h z)
    rcases List.mem_cons.1 hx with rfl | hx
    · simp [hp, hp']; omega
    · have := ih hx
      by_cases g : p' y = true
      · simp [g, h y g]; omega
      · simp [g]; split <;> omega
theorem unv_push {st : List Int} {l : Nat} {x : Int} (hlN : l < W.N) (hl : l < st.length) (hx : x ≠ 0) (hv : ¬ vis W st l) : unv W (st.set l x) + 1 ≤ unv W st := by
  refine countP_lt _ _ _ l (List.mem_range.2 hlN) (fun y hy => ?_) (by simp [hv]) ?_
  · simp only [Bool.not_eq_true', decide_eq_false_iff_not] at hy ⊢
    exact fun hc => hy ((vis_set W hl hx).2 (.inr hc))
  · simp only [Bool.not_eq_false', decide_eq_true_eq]
    exact (vis_set W hl hx).2 (.inl rfl)
end BfsP

open Go.RowKit Go.Proofs.Ytfdbibddhneklab.PGridSteps Go.Proofs.YtfdbibddhneklabW.PrintWords Go.Proofs.YtfdbibddhneklabW.PrintLast Go.Proofs.YtfdbibddhneklabW.PrintMore
theorem w64 {x : Int} (h : -9223372036854775808 ≤ x ∧ x ≤ 9223372036854775807) : wrap64 x = x := by unfold wrap64; omega
def Okd (a b : Int) (s : ByteArray) : Prop := 1 ≤ a ∧ a ≤ 64 ∧ 1 ≤ b ∧ b ≤ 64 ∧ (s.size : Int) = a * b
theorem Okd.le {a b : Int} {s : ByteArray} (h : Okd a b s) : (s.size : Int) ≤ 4096 := by
  have := Int.mul_le_mul h.2.1 h.2.2.2.1 (by have := h.2.2.1; omega) (by omega)
  have := h.2.2.2.2
  omega
theorem Okd.w {a b : Int} {s : ByteArray} (h : Okd a b s) : wrap64 (a * b) = (s.size : Int) := by
  have := h.le; have := h.2.2.2.2
  rw [w64 (by omega)]; omega
def onB (s : ByteArray) (t : Int) : Bool := decide (0 ≤ t ∧ t < (s.size : Int))
theorem on_g (a b : Int) (s : ByteArray) (t : Int) : grid_Map_On.f a b s t = some (onB s t) := by
  unfold grid_Map_On.f onB
  by_cases h : t ≥ 0
  · rw [if_pos h]; simp; omega
  · rw [if_neg h]; simp; omega
theorem onB_true {s : ByteArray} {t : Int} (h : onB s t = true) : 0 ≤ t ∧ t < (s.size : Int) := by simpa [onB] using h
theorem onB_false {s : ByteArray} {t : Int} (h : onB s t = false) : ¬ (0 ≤ t ∧ t < (s.size : Int)) := by simpa [onB] using h
theorem xy_in {a b : Int} {s : ByteArray} (h : Okd a b s) {t : Int} (ht : onB s t = true) : (0 ≤ t % a ∧ t % a < a) ∧ (0 ≤ t / a ∧ t / a < b) ∧ t.tmod a = t % a ∧ t.tdiv a = t / a ∧ wrap64 (t / a) = t / a := by
  obtain ⟨h1, h2, h3, h4, h5⟩ := h
  obtain ⟨t1, t2⟩ := onB_true ht
  have d1 : 0 ≤ t / a := Int.ediv_nonneg t1 (by omega)
  have d2 : t / a < b := Int.ediv_lt_of_lt_mul (by omega) (by rw [Int.mul_comm]; omega)
  exact ⟨⟨Int.emod_nonneg _ (by omega), Int.emod_lt_of_pos _ (by omega)⟩, ⟨d1, d2⟩, Int.tmod_eq_emod_of_nonneg t1, Int.tdiv_eq_ediv_of_nonneg t1, w64 (by omega)⟩
theorem xy_g {a b : Int} {s : ByteArray} (h : Okd a b s) (t : Int) : grid_Map_XY.f a b s t = if onB s t = true then some (t % a, t / a) else some (-1, -1) := by
  unfold grid_Map_XY.f
  rw [on_g, Option.bind_some]
  by_cases ht : onB s t = true
  · obtain ⟨-, -, e1, e2, e3⟩ := xy_in h ht
    rw [if_pos ht, if_pos ht, if_neg (by have := h.1; omega), e1, e2, e3]
  · rw [if_neg ht, if_neg ht]
def dst (a t u : Int) : Int := mx (t % a - u % a) (u % a - t % a) + mx (t / a - u / a) (u / a - t / a)
def farI (a : Int) (s : ByteArray) (t u : Int) : Int := if onB s t = true ∧ onB s u = true then dst a t u else -1
theorem mx_abs {p q : Int} (hp : -100 ≤ p ∧ p ≤ 100) (hq : -100 ≤ q ∧ q ≤ 100) : 0 ≤ mx (p - q) (q - p) ∧ mx (p - q) (q - p) ≤ 200 ∧ wrap64 (p - q) = p - q ∧ wrap64 (q - p) = q - p := by
  refine ⟨?_, ?_, w64 (by omega), w64 (by omega)⟩ <;> (unfold mx; split <;> omega)
theorem far_g {a b : Int} {s : ByteArray} (h : Okd a b s) (t u : Int) (k : Nat) (hk : 0 < k) : grid_Map_Far.f k a b s t u = some (farI a s t u) := by
  obtain ⟨k, rfl⟩ : ∃ m, k = m + 1 := ⟨k - 1, by omega⟩
  unfold grid_Map_Far.f farI
  rw [on_g, Option.bind_some]
  by_cases ht : onB s t = true
  · rw [if_pos ht, on_g, Option.bind_some]
    simp only [grid_Map_Far.j0]
    by_cases hu : onB s u = true
    · rw [if_neg (by simp [hu]), if_pos ⟨ht, hu⟩, xy_g h, xy_g h, if_pos ht, if_pos hu, Option.bind_some, Option.bind_some]
      obtain ⟨p1, p2, -⟩ := xy_in h ht
      obtain ⟨q1, q2, -⟩ := xy_in h hu
      have hb := h.2.2.2.1; have ha := h.2.1
      obtain ⟨x1, x2, x3, x4⟩ := mx_abs (p := t % a) (q := u % a) (by omega) (by omega)
      obtain ⟨y1, y2, y3, y4⟩ := mx_abs (p := t / a) (q := u / a) (by omega) (by omega)
      rw [x3, x4, y3, y4, w64 (by omega)]
      rfl
    · rw [if_pos (by simp [hu]), if_neg (fun hh => hu hh.2)]
  · rw [if_neg ht, if_neg (fun hh => ht hh.1)]
    simp only [grid_Map_Far.j0]
    rfl
theorem len_g {a b : Int} {s : ByteArray} (h : Okd a b s) : grid_Map_Len.f a b s = some (wrap64 (a * b)) := by
  unfold grid_Map_Len.f
  rw [if_neg]
  intro hh
  have := h.1
  simp at hh
  omega
theorem wakes_true (k : Nat) (hk : 0 < k) : rematchlaw07_wakes.f k = some true := by
  obtain ⟨k, rfl⟩ : ∃ m, k = m + 1 := ⟨k - 1, by omega⟩
  have h1 : rematchlaw07_wakes.f 1 = some true := by decide +kernel
  induction k with
  | zero => exact h1
  | succ k ih => exact rematchlaw07_wakes.mono (k + 1) _ (ih (by omega))
theorem div_mod_at {a : Int} (ha : 0 < a) (x y u : Int) (hx : 0 ≤ x ∧ x < a) (hu : u = a * y + x) : u % a = x ∧ u / a = y := by
  subst hu
  rw [Int.add_comm]
  exact ⟨by rw [Int.add_mul_emod_self_left]; exact Int.emod_eq_of_lt hx.1 hx.2, by rw [Int.add_mul_ediv_left _ _ (by omega), Int.ediv_eq_zero_of_lt hx.1 hx.2]; omega⟩
theorem mul_bounds {a b y : Int} (ha : 0 < a) (h : 0 ≤ y ∧ y < b) : 0 ≤ a * y ∧ a * y + a ≤ a * b := by
  refine ⟨Int.mul_nonneg (by omega) h.1, ?_⟩
  have := Int.mul_le_mul_of_nonneg_left (show y + 1 ≤ b by omega) (show 0 ≤ a by omega)
  rw [Int.mul_add, Int.mul_one] at this
  exact this
theorem flt_congr (a t f g : Int) (n : Nat) (h : ∀ m, m < n → grid_nearB a t f m = grid_nearB a t g m) : grid_flt a t f n = grid_flt a t g n := by
  unfold grid_flt
  congr 1
  refine List.filter_congr (fun m hm => ?_)
  exact h m (List.mem_range.1 hm)
theorem dst_le {a b : Int} {s : ByteArray} (h : Okd a b s) {t u : Int} (ht : onB s t = true) (hu : onB s u = true) : 0 ≤ dst a t u ∧ dst a t u ≤ 128 := by
  obtain ⟨p1, p2, -⟩ := xy_in h ht
  obtain ⟨q1, q2, -⟩ := xy_in h hu
  have := h.2.1; have := h.2.2.2.1
  unfold dst mx
  split <;> split <;> omega
theorem around_g {a b : Int} {s : ByteArray} (h : Okd a b s) {t : Int} (ht : onB s t = true) (f : Int) : grid_Map_Around.f a b s t f = some (grid_flt a t f s.size) := by
  have t1 := onB_true ht
  unfold grid_Map_Around.f
  rw [if_pos (show 1 ≤ a ∧ a ≤ 64 ∧ 1 ≤ b ∧ b ≤ 64 ∧ (s.size : Int) = a * b from h)]
  have es : (a * b).toNat = s.size := by have := h.2.2.2.2; omega
  have hnf : ∀ (g : Int) (m : Nat), m < s.size → grid_nearB a t g m = decide (dst a t m ≤ g) := fun g m hm => rfl
  by_cases hf : 0 ≤ f
  · rw [if_pos ⟨t1.1, t1.2, hf⟩, es]
    congr 1
    by_cases hf2 : 128 < f
    · rw [if_pos hf2]
      refine flt_congr _ _ _ _ _ (fun m hm => ?_)
      have := dst_le h ht (u := (m : Int)) (by simp [onB]; omega)
      rw [hnf _ _ hm, hnf _ _ hm, decide_eq_true (by omega), decide_eq_true (by omega)]
    · rw [if_neg hf2]
  · rw [if_neg (fun hh => hf hh.2.2)]
    congr 1
    symm
    have : grid_flt a t f (0 + s.size) = grid_flt a t f 0 := grid_flt_skip _ _ _ _ _ (fun i _ hi => by
      have := dst_le h ht (u := (i : Int)) (by simp [onB]; omega)
      rw [hnf _ _ (by omega), decide_eq_false (by omega)])
    rw [Nat.zero_add] at this
    rw [this]
    rfl
/-- the places beside one: where they lie -/
theorem at_up {a b : Int} {s : ByteArray} (h : Okd a b s) {t : Int} (ht : onB s t = true) (c : 1 ≤ t / a) : onB s (t - a) = true ∧ (t - a) % a = t % a ∧ (t - a) / a = t / a - 1 := by
  obtain ⟨p1, p2, -⟩ := xy_in h ht
  have e := Int.mul_ediv_add_emod t a
  have hs := h.2.2.2.2
  have t1 := onB_true ht
  have h1 := h.1
  have m2 : a * (t / a - 1) = a * (t / a) - a := by rw [Int.mul_sub, Int.mul_one]
  have m3 : 0 ≤ a * (t / a - 1) := Int.mul_nonneg (by omega) (by omega)
  obtain ⟨f1, f2⟩ := div_mod_at (a := a) (by omega) (t % a) (t / a - 1) (t - a) p1 (by omega)
  exact ⟨by simp [onB]; omega, f1, f2⟩
theorem at_rt {a b : Int} {s : ByteArray} (h : Okd a b s) {t : Int} (ht : onB s t = true) (c : t % a + 1 < a) : onB s (t + 1) = true ∧ (t + 1) % a = t % a + 1 ∧ (t + 1) / a = t / a := by
  obtain ⟨p1, p2, -⟩ := xy_in h ht
  have e := Int.mul_ediv_add_emod t a
  have hs := h.2.2.2.2
  have t1 := onB_true ht
  have h1 := h.1
  have m := mul_bounds (a := a) (b := b) (by omega) p2
  obtain ⟨f1, f2⟩ := div_mod_at (a := a) (by omega) (t % a + 1) (t / a) (t + 1) (by omega) (by omega)
  exact ⟨by simp [onB]; omega, f1, f2⟩
theorem at_dn {a b : Int} {s : ByteArray} (h : Okd a b s) {t : Int} (ht : onB s t = true) (c : t / a + 1 < b) : onB s (t + a) = true ∧ (t + a) % a = t % a ∧ (t + a) / a = t / a + 1 := by
  obtain ⟨p1, p2, -⟩ := xy_in h ht
  have e := Int.mul_ediv_add_emod t a
  have hs := h.2.2.2.2
  have t1 := onB_true ht
  have h1 := h.1
  have m2 : a * (t / a + 1) = a * (t / a) + a := by rw [Int.mul_add, Int.mul_one]
  have m3 := mul_bounds (a := a) (b := b) (y := t / a + 1) (by omega) (by omega)
  obtain ⟨f1, f2⟩ := div_mod_at (a := a) (by omega) (t % a) (t / a + 1) (t + a) p1 (by omega)
  exact ⟨by simp [onB]; omega, f1, f2⟩
theorem at_lf {a b : Int} {s : ByteArray} (h : Okd a b s) {t : Int} (ht : onB s t = true) (c : 1 ≤ t % a) : onB s (t - 1) = true ∧ (t - 1) % a = t % a - 1 ∧ (t - 1) / a = t / a := by
  obtain ⟨p1, p2, -⟩ := xy_in h ht
  have e := Int.mul_ediv_add_emod t a
  have hs := h.2.2.2.2
  have t1 := onB_true ht
  have h1 := h.1
  have m := mul_bounds (a := a) (b := b) (by omega) p2
  obtain ⟨f1, f2⟩ := div_mod_at (a := a) (by omega) (t % a - 1) (t / a) (t - 1) (by omega) (by omega)
  exact ⟨by simp [onB]; omega, f1, f2⟩
theorem next_mem {a b t L : Int} : L ∈ grid_nextA a b t 4 ↔ (1 ≤ t / a ∧ L = t - a) ∨ (t % a + 1 < a ∧ L = t + 1) ∨ (t / a + 1 < b ∧ L = t + a) ∨ (1 ≤ t % a ∧ L = t - 1) := by
  unfold grid_nextA
  by_cases c0 : 1 ≤ t / a <;> by_cases c1 : t % a + 1 < a <;> by_cases c2 : t / a + 1 < b <;> by_cases c3 : 1 ≤ t % a <;> simp [c0, c1, c2, c3]
theorem next_at {a b : Int} {s : ByteArray} (h : Okd a b s) {t L : Int} (ht : onB s t = true) (hL : L ∈ grid_nextA a b t 4) :
    onB s L = true ∧ ((L % a = t % a ∧ (L / a = t / a - 1 ∨ L / a = t / a + 1)) ∨ (L / a = t / a ∧ (L % a = t % a - 1 ∨ L % a = t % a + 1))) := by
  rcases next_mem.1 hL with ⟨c, rfl⟩ | ⟨c, rfl⟩ | ⟨c, rfl⟩ | ⟨c, rfl⟩
  · obtain ⟨h1, h2, h3⟩ := at_up h ht c
    exact ⟨h1, .inl ⟨h2, .inl h3⟩⟩
  · obtain ⟨h1, h2, h3⟩ := at_rt h ht c
    exact ⟨h1, .inr ⟨h3, .inr h2⟩⟩
  · obtain ⟨h1, h2, h3⟩ := at_dn h ht c
    exact ⟨h1, .inl ⟨h2, .inr h3⟩⟩
  · obtain ⟨h1, h2, h3⟩ := at_lf h ht c
    exact ⟨h1, .inr ⟨h3, .inl h2⟩⟩
theorem dst_zero {a t u : Int} (h : dst a t u = 0) : t = u := by
  have e1 := Int.mul_ediv_add_emod t a
  have e2 := Int.mul_ediv_add_emod u a
  unfold dst mx at h
  have h1 : t % a = u % a := by split at h <;> split at h <;> omega
  have h2 : t / a = u / a := by split at h <;> split at h <;> omega
  rw [h1, h2] at e1
  omega
theorem dst_self (a t : Int) : dst a t t = 0 := by
  unfold dst mx
  simp
theorem dst_nn (a t u : Int) : 0 ≤ dst a t u := by
  unfold dst mx
  split <;> split <;> omega
theorem onB_nat {s : ByteArray} {v : Nat} (h : v < s.size) : onB s (v : Int) = true := by simp [onB]; omega
theorem dst_next {a b : Int} {s : ByteArray} (h : Okd a b s) {t v L : Int} (hv : onB s v = true) (hL : L ∈ grid_nextA a b v 4) : dst a t L = dst a t v + 1 ∨ dst a t v = dst a t L + 1 := by
  obtain ⟨-, hc⟩ := next_at h hv hL
  unfold dst mx
  rcases hc with ⟨h1, h2 | h2⟩ | ⟨h1, h2 | h2⟩ <;> rw [h1, h2] <;> (repeat' split) <;> omega
theorem dst_from {a b : Int} {s : ByteArray} (h : Okd a b s) {t v : Int} (ht : onB s t = true) (hv : onB s v = true) (hp : 0 < dst a t v) : ∃ j, onB s j = true ∧ dst a t j + 1 = dst a t v ∧ v ∈ grid_nextA a b j 4 := by
  obtain ⟨p1, p2, -⟩ := xy_in h ht
  obtain ⟨q1, q2, -⟩ := xy_in h hv
  by_cases c1 : t % a < v % a
  · obtain ⟨h1, h2, h3⟩ := at_lf h hv (by omega)
    refine ⟨v - 1, h1, ?_, next_mem.2 (.inr (.inl ⟨by omega, by omega⟩))⟩
    unfold dst mx
    rw [h2, h3]
    (repeat' split) <;> omega
  by_cases c2 : v % a < t % a
  · obtain ⟨h1, h2, h3⟩ := at_rt h hv (by omega)
    refine ⟨v + 1, h1, ?_, next_mem.2 (.inr (.inr (.inr ⟨by omega, by omega⟩)))⟩
    unfold dst mx
    rw [h2, h3]
    (repeat' split) <;> omega
  by_cases c3 : t / a < v / a
  · obtain ⟨h1, h2, h3⟩ := at_up h hv (by omega)
    refine ⟨v - a, h1, ?_, next_mem.2 (.inr (.inr (.inl ⟨by omega, by omega⟩)))⟩
    unfold dst mx
    rw [h2, h3]
    (repeat' split) <;> omega
  by_cases c4 : v / a < t / a
  · obtain ⟨h1, h2, h3⟩ := at_dn h hv (by omega)
    refine ⟨v + a, h1, ?_, next_mem.2 (.inl ⟨by omega, by omega⟩)⟩
    unfold dst mx
    rw [h2, h3]
    (repeat' split) <;> omega
  exfalso
  unfold dst mx at hp
  split at hp <;> split at hp <;> omega
/-- the map, as places and what is beside them -/
def gw {a b : Int} {s : ByteArray} (h : Okd a b s) (t : Nat) (ht : t < s.size) : BfsP.World where
  N := s.size
  start := t
  nb := fun v => (grid_nextA a b (v : Int) 4).map Int.toNat
  d := fun v => (dst a t v).toNat
  hs := ht
  d0 := by rw [dst_self]; rfl
  zero := fun v hv hd => by
    have := dst_nn a t v
    have e := dst_zero (a := a) (t := t) (u := v) (by omega)
    omega
  near := fun v hv l hl => by
    obtain ⟨L, hL, rfl⟩ := List.mem_map.1 hl
    have hb := onB_true (next_at h (onB_nat hv) hL).1
    have e : ((L.toNat : Nat) : Int) = L := by omega
    have hd := dst_next h (t := (t : Int)) (onB_nat hv) hL
    have n1 := dst_nn a t v
    have n2 := dst_nn a t L
    rw [e]
    exact ⟨by omega, by omega⟩
  from_ := fun v hv hd => by
    obtain ⟨j, h1, h2, h3⟩ := dst_from h (t := (t : Int)) (onB_nat ht) (onB_nat hv) (by omega)
    have hj := onB_true h1
    have e : ((j.toNat : Nat) : Int) = j := by omega
    have n1 := dst_nn a t j
    refine ⟨j.toNat, by omega, by rw [e]; omega, ?_⟩
    rw [e]
    exact List.mem_map.2 ⟨_, h3, rfl⟩
/-- the last loop: each place's way, and what is near -/
theorem flt_pre (a t f : Int) (n : Nat) : ∀ (d i : Nat), i + d = n → ∃ r, grid_flt a t f n = grid_flt a t f i ++ r := by
  intro d
  induction d with
  | zero => intro i hi; obtain rfl : i = n := by omega
            exact ⟨[], by simp⟩
  | succ d ih =>
    intro i hi
    obtain ⟨r, hr⟩ := ih (i + 1) (by omega)
    cases hb : grid_nearB a t f i
    · rw [grid_flt_no _ _ _ _ hb] at hr; exact ⟨r, hr⟩
    · rw [grid_flt_yes _ _ _ _ hb] at hr; exact ⟨_, by rw [hr, List.append_assoc]⟩
theorem gs_last {a b : Int} {s : ByteArray} (h : Okd a b s) {t : Nat} (ht : t < s.size) (f : Int) (hf : 0 ≤ f ∧ f < 256) (st : List Int) (hl : st.length = s.size) (hst : ∀ v, v < s.size → st.getD v 0 = dst a t v) (d : Nat) :
    ∀ i, i + d = s.size → ∃ k, 1 < k ∧ rematchlaw07_GridSteps.l2 k f a b (t : Int) st (grid_flt a t f s.size) ((grid_flt a t f i).length : Int) (i : Int) a b s = some true := by
  have hle := h.le
  have hw : wrap64 f = f := w64 (by omega)
  have hfl := grid_flt_len a t f s.size
  induction d with
  | zero =>
    intro i hi
    obtain rfl : i = s.size := by omega
    refine ⟨2, by omega, ?_⟩
    rw [rematchlaw07_GridSteps.l2, h.w, if_neg (by omega), if_pos rfl, wakes_true 1 (by omega)]
    rfl
  | succ d ih =>
    intro i hi
    obtain ⟨k, hk, ik⟩ := ih (i + 1) (by omega)
    refine ⟨k + 1, by omega, ?_⟩
    have hd : farI a s t i = dst a t i := by
      unfold farI
      rw [if_pos ⟨onB_nat ht, onB_nat (by omega)⟩]
    have hr : rd st (i : Int) = dst a t i := by unfold rd; rw [Int.toNat_natCast]; exact hst i (by omega)
    rw [rematchlaw07_GridSteps.l2, h.w, if_pos (by omega), far_g h _ _ _ (by omega), Option.bind_some, if_pos (by omega), if_pos (by omega), if_pos (by rw [hd, hr]), hr, hw]
    have hn : grid_nearB a t f i = decide (dst a t i ≤ f) := rfl
    by_cases c : dst a t i ≤ f
    · rw [decide_eq_true c] at hn
      obtain ⟨r, hr2⟩ := flt_pre a t f s.size d (i + 1) (by omega)
      have hy := grid_flt_yes _ _ _ _ hn
      have hlen : (grid_flt a t f (i + 1)).length = (grid_flt a t f i).length + 1 := by rw [hy]; simp
      have hlt : (grid_flt a t f i).length < (grid_flt a t f s.size).length := by rw [hr2, List.length_append]; omega
      have hrd : rd (grid_flt a t f s.size) ((grid_flt a t f i).length : Int) = (i : Int) := by
        unfold rd
        rw [Int.toNat_natCast, hr2, hy]
        simp [List.getD_eq_getElem?_getD]
      rw [if_neg (by omega), if_neg (by omega), if_pos (by omega), if_pos (by omega), if_pos hrd, w64 (by omega), w64 (by omega)]
      rw [hlen] at ik
      exact ik
    · rw [decide_eq_false c] at hn
      rw [grid_flt_no _ _ _ _ hn] at ik
      rw [if_pos (by omega), w64 (by omega)]
      exact ik
/-- the queue's loop, and the one over what is beside a place -/
theorem gs_loops {a b : Int} {s : ByteArray} (h : Okd a b s) {t : Nat} (ht : t < s.size) (f : Int) (hf : 0 ≤ f ∧ f < 256) (W : BfsP.World) (hN : W.N = s.size) (hS : W.start = t) (hB : ∀ v, W.nb v = (grid_nextA a b (v : Int) 4).map Int.toNat) (hD : ∀ v, (W.d v : Int) = dst a t v) : ∀ (m : Nat), m ≤ 20000 → ∀ (st : List Int) (q : List Nat), BfsP.Outer W st q → 2 * BfsP.unv W st + q.length ≤ m →
    ∃ k, 1 < k ∧ rematchlaw07_GridSteps.l0 k f a b (t : Int) st (q.map fun v : Nat => (v : Int)) a b s = some true := by
  have hle := h.le
  have hf64 : Unit → wrap64 f = f := fun _ => w64 (by omega)
  have empty : ∀ (st : List Int), BfsP.Outer W st [] → ∃ k, 1 < k ∧ rematchlaw07_GridSteps.l0 k f a b (t : Int) st (([] : List Nat).map fun v : Nat => (v : Int)) a b s = some true := by
    intro st ho
    have hfin := BfsP.finish _ ho
    obtain ⟨k, hk, ik⟩ := gs_last h ht f hf st (by rw [ho.len, hN]) (fun v hv => by rw [hfin v (by rw [hN]; exact hv), hD]) s.size 0 (by omega)
    refine ⟨k + 1, by omega, ?_⟩
    rw [rematchlaw07_GridSteps.l0, if_neg (by simp), hf64 (), around_g h (onB_nat ht), Option.bind_some]
    exact ik
  intro m
  induction m with
  | zero =>
    intro _ st q ho hm
    obtain rfl : q = [] := List.length_eq_zero_iff.1 (by omega)
    exact empty st ho
  | succ m ih =>
    intro hm2 st q ho hm
    cases q with
    | nil => exact empty st ho
    | cons i r =>
      have hin := BfsP.pop _ ho
      have hi : i < s.size := by rw [← hN]; exact hin.hi
      obtain ⟨L, hL⟩ : ∃ L, L = grid_nextA a b (i : Int) 4 := ⟨_, rfl⟩
      have hLl : L.length ≤ 4 := by rw [hL]; exact grid_nextA_len _ _ _ _
      have hLm : ∀ x ∈ L, onB s x = true := fun x hx => (next_at h (onB_nat hi) (by rw [← hL]; exact hx)).1
      have inner : ∀ (d j : Nat), j + d = L.length → ∀ (st : List Int) (q : List Nat), BfsP.Inner W i ((L.drop j).map Int.toNat) st q → 2 * BfsP.unv W st + q.length ≤ m →
          ∃ k, 1 < k ∧ rematchlaw07_GridSteps.l1 k f a b (t : Int) st (q.map fun v : Nat => (v : Int)) (i : Int) L (j : Int) a b s = some true := by
        intro d
        induction d with
        | zero =>
          intro j hj st q hI hq
          obtain rfl : j = L.length := by omega
          rw [List.drop_length] at hI
          obtain ⟨k, hk, ik⟩ := ih (by omega) st q (BfsP.next_ _ hI) hq
          refine ⟨k + 1, by omega, ?_⟩
          rw [rematchlaw07_GridSteps.l1, if_neg (by omega)]
          exact ik
        | succ d ihd =>
          intro j hj st q hI hq
          have hjl : j < L.length := by omega
          obtain ⟨x, hx⟩ : ∃ x, x = L[j] := ⟨_, rfl⟩
          have hxm : x ∈ L := by rw [hx]; exact List.getElem_mem hjl
          have hon := onB_true (hLm x hxm)
          have hrd : Unit → rd L (j : Int) = x := fun _ => by
            unfold rd
            rw [Int.toNat_natCast, List.getD_eq_getElem?_getD, List.getElem?_eq_getElem hjl, hx]
            rfl
          rw [List.drop_eq_getElem_cons hjl, ← hx, List.map_cons] at hI
          have hst : st.length = s.size := by rw [hI.len, hN]
          have hxt : ((x.toNat : Nat) : Int) = x := by omega
          have hj1 : Unit → wrap64 ((j : Int) + 1) = ((j + 1 : Nat) : Int) := fun _ => by rw [w64 (by omega)]; rfl
          have skip : BfsP.vis W st x.toNat → ∃ k, 1 < k ∧ rematchlaw07_GridSteps.l1 k f a b (t : Int) st (q.map fun v : Nat => (v : Int)) (i : Int) L (wrap64 ((j : Int) + 1)) a b s = some true := fun hv => by
            rw [hj1 ()]
            exact ihd (j + 1) (by omega) st q (BfsP.skip _ hI hv) hq
          by_cases c1 : x = (t : Int)
          · obtain ⟨k, hk, ik⟩ := skip (.inl (by rw [hS]; omega))
            refine ⟨k + 1, by omega, ?_⟩
            rw [rematchlaw07_GridSteps.l1, if_pos (by omega), if_pos (by omega), on_g, Option.bind_some, hrd (), if_pos (hLm x hxm), if_pos c1]
            exact ik
          · have hr : Unit → rd st x = st.getD x.toNat 0 := fun _ => rfl
            by_cases c2 : st.getD x.toNat 0 = 0
            · have hnv : ¬ BfsP.vis W st x.toNat := by
                rintro (hh | hh)
                · rw [hS] at hh; exact c1 (by omega)
                · exact hh c2
              obtain ⟨hp1, hp2⟩ := BfsP.push _ hI hnv
              have hdl := dst_le h (t := (t : Int)) (u := (i : Int)) (onB_nat ht) (onB_nat hi)
              have hp3 : st.getD i 0 + 1 = dst a t i + 1 := by rw [hp1, ← hD]; rfl
              have hwi : Unit → wrap64 (rd st (i : Int) + 1) = st.getD i 0 + 1 := fun _ => by
                unfold rd
                rw [Int.toNat_natCast, w64 (by omega)]
              have hu := BfsP.unv_push W (st := st) (l := x.toNat) (x := st.getD i 0 + 1) (by rw [hN]; omega) (by omega) (by omega) hnv
              obtain ⟨k, hk, ik⟩ := ihd (j + 1) (by omega) _ _ hp2 (by rw [List.length_append, List.length_singleton]; omega)
              refine ⟨k + 1, by omega, ?_⟩
              rw [rematchlaw07_GridSteps.l1, if_pos (by omega), if_pos (by omega), on_g, Option.bind_some, hrd (), if_pos (hLm x hxm), if_neg c1, if_pos (by omega), if_pos (by omega), if_pos (by rw [hr ()]; exact c2), if_pos (by omega), if_pos (by omega), if_pos (by rw [List.length_map]; omega), hwi (), hj1 ()]
              rw [List.map_append, List.map_cons, List.map_nil, hxt] at ik
              exact ik
            · obtain ⟨k, hk, ik⟩ := skip (.inr c2)
              refine ⟨k + 1, by omega, ?_⟩
              rw [rematchlaw07_GridSteps.l1, if_pos (by omega), if_pos (by omega), on_g, Option.bind_some, hrd (), if_pos (hLm x hxm), if_neg c1, if_pos (by omega), if_pos (by omega), if_neg (by rw [hr ()]; exact c2)]
              exact ik
      obtain ⟨k, hk, ik⟩ := inner L.length 0 (by omega) st r (by rw [List.drop_zero, hL, ← hB]; exact hin) (by rw [List.length_cons] at hm; omega)
      refine ⟨k + 1, by omega, ?_⟩
      have e0 : rd ((i :: r).map fun v : Nat => (v : Int)) 0 = (i : Int) := rfl
      have hn : grid_Map_Next.f a b s (i : Int) = some L := by
        unfold grid_Map_Next.f
        rw [if_pos (show 1 ≤ a ∧ a ≤ 64 ∧ 1 ≤ b ∧ b ≤ 64 ∧ (s.size : Int) = a * b from h), if_pos ⟨by omega, by omega⟩, hL]
      rw [rematchlaw07_GridSteps.l0, if_pos (by simp; try omega), if_pos (by simp; try omega), if_pos (by simp; try omega), e0, hn, Option.bind_some]
      exact ik
theorem gs_low (n : Nat) : grid_low (strOfNums (List.replicate n 0)) = true := by
  unfold grid_low
  rw [strOfNums_data]
  simp
theorem GridSteps : rematchlaw07_GridSteps.Pure := by
  intro a0 a1 a2 a3 w0 w1 w2 w3
  have r0 : 0 ≤ a0 ∧ a0 < 256 := by simp [Lit.wf, IntKind.min, IntKind.max, IntKind.bits, IntKind.signed] at w0; omega
  have r1 : 0 ≤ a1 ∧ a1 < 256 := by simp [Lit.wf, IntKind.min, IntKind.max, IntKind.bits, IntKind.signed] at w1; omega
  have r2 : 0 ≤ a2 ∧ a2 < 256 := by simp [Lit.wf, IntKind.min, IntKind.max, IntKind.bits, IntKind.signed] at w2; omega
  have r3 : 0 ≤ a3 ∧ a3 < 256 := by simp [Lit.wf, IntKind.min, IntKind.max, IntKind.bits, IntKind.signed] at w3; omega
  obtain ⟨a, ha⟩ : ∃ a : Int, a = 4 + a0 % 9 := ⟨_, rfl⟩
  obtain ⟨b, hb⟩ : ∃ b : Int, b = 4 + a1 % 9 := ⟨_, rfl⟩
  have ea : wrap64 (4 + Int.tmod (wrap64 a0) 9) = a := by
    rw [w64 (x := a0) (by omega), Int.tmod_eq_emod_of_nonneg r0.1, w64 (by omega)]; omega
  have eb : wrap64 (4 + Int.tmod (wrap64 a1) 9) = b := by
    rw [w64 (x := a1) (by omega), Int.tmod_eq_emod_of_nonneg r1.1, w64 (by omega)]; omega
  have la : 4 ≤ a ∧ a ≤ 12 := by omega
  have lb : 4 ≤ b ∧ b ≤ 12 := by omega
  have hm1 : 4 * 4 ≤ a * b := Int.mul_le_mul la.1 lb.1 (by omega) (by omega)
  have hm2 : a * b ≤ 12 * 12 := Int.mul_le_mul la.2 lb.2 (by omega) (by omega)
  have eab : wrap64 (a * b) = a * b := w64 (by omega)
  obtain ⟨s, hs⟩ : ∃ s, s = strOfNums (List.replicate (a * b).toNat 0) := ⟨_, rfl⟩
  have hsz : (s.size : Int) = a * b := by rw [hs, strOfNums_size, List.length_replicate]; omega
  have h : Okd a b s := ⟨by omega, by omega, by omega, by omega, hsz⟩
  have hlow : grid_low s = true := by rw [hs]; exact gs_low _
  have hnew : grid_New.f a b s = some (a, b, s, 0) := by
    unfold grid_New.f
    rw [if_pos (show grid_ok a b s from ⟨by omega, by omega, by omega, by omega, hsz, hlow⟩)]
  obtain ⟨t, hte⟩ : ∃ t : Nat, (t : Int) = a2 % (a * b) := ⟨(a2 % (a * b)).toNat, by
    have := Int.emod_nonneg a2 (show a * b ≠ 0 by omega)
    omega⟩
  have ht : t < s.size := by
    have := Int.emod_lt_of_pos a2 (show 0 < a * b by omega)
    omega
  have hstl : (List.replicate (a * b).toNat (0 : Int)).length = s.size := by rw [List.length_replicate]; omega
  have hbegin := BfsP.begin_ (gw h t ht) (List.replicate (a * b).toNat 0) hstl (fun v hv => by
    rw [List.getD_eq_getElem?_getD, List.getElem?_replicate]
    split <;> rfl)
  have hunv : BfsP.unv (gw h t ht) (List.replicate (a * b).toNat 0) ≤ s.size := by
    unfold BfsP.unv
    refine Nat.le_trans (List.countP_le_length) ?_
    rw [List.length_range]
    exact Nat.le_refl _
  obtain ⟨k, hk, ik⟩ := gs_loops h ht a3 r3 (gw h t ht) rfl rfl (fun _ => rfl) (fun v => by
    have := dst_nn a t v
    show ((dst a t v).toNat : Int) = _
    omega) (2 * s.size + 1) (by have := h.le; omega) _ _ hbegin (by
    show _ + 1 ≤ _
    omega)
  refine ⟨k + 1, ?_⟩
  unfold rematchlaw07_GridSteps.f
  rw [ea, eb, eab, if_pos (by omega), if_pos (by omega), ← hs, hnew, Option.bind_some, if_pos rfl, len_g h, Option.bind_some, eab]
  rw [rematchlaw07_GridSteps.j0, if_neg (by simp), eab, if_neg (by omega), if_pos (by omega), if_pos (by omega), w64 (x := a2) (by omega), Int.tmod_eq_emod_of_nonneg r2.1, ← hte]
  exact ik
end Go.Proofs.Ytfdbibddhneklab.Pure
