/- Path: of all ways it is a shortest one: the search's side. No program in sight. -/
import Derived.Test.YtkbimhngbdbgdaaQX
namespace Go.Proofs.Ytkbimhngbdbgdaa.Pure
open Go.RowKit Go.Proofs.Ytkbimhngbdbgdaa.PPathFinds Go.Proofs.YtkbimhngbdbgdaaW.PrintWords Go.Proofs.YtkbimhngbdbgdaaW.PrintLast Go.Proofs.YtkbimhngbdbgdaaW.PrintMore
set_option linter.unusedVariables false
set_option maxHeartbeats 2000000
/-- a tile that may be stepped on -/
def Free (a b : Int) (s : ByteArray) (B : Int → Bool) (x : Int) : Prop := grid_Map_Walk.f a b s x = some true ∧ B x = false
/-- a tile is come to in so many steps -/
inductive Rch (a b : Int) (s : ByteArray) (B : Int → Bool) (u : Int) : Nat → Int → Prop where
  | here : Rch a b s B u 0 u
  | step {k : Nat} {t x : Int} (h : Rch a b s B u k t) (hx : x ∈ grid_nextA a b t 4) (hf : Free a b s B x) : Rch a b s B u (k + 1) x
theorem Rch.on {a b : Int} {s : ByteArray} (h : Okd a b s) {B : Int → Bool} {u : Int} (hu : onB s u = true) {k : Nat} {t : Int} (hr : Rch a b s B u k t) : onB s t = true := by
  induction hr with
  | here => exact hu
  | step hr hx hf ih => exact (next_at h ih hx).1
theorem far_step {a b : Int} {s : ByteArray} (h : Okd a b s) {goal t x : Int} (hg : onB s goal = true) (ht : onB s t = true) (hx : x ∈ grid_nextA a b t 4) : farI a s t goal ≤ farI a s x goal + 1 := by
  obtain ⟨hxo, hn⟩ := next_at h ht hx
  unfold farI
  rw [if_pos ⟨ht, hg⟩, if_pos ⟨hxo, hg⟩]
  unfold dst mx
  rcases hn with ⟨e1, e2⟩ | ⟨e1, e2⟩
  · rw [e1]; rcases e2 with e2 | e2 <;> rw [e2] <;> omega
  · rw [e1]; rcases e2 with e2 | e2 <;> rw [e2] <;> omega
theorem hh_step {a b : Int} {s : ByteArray} (h : Okd a b s) {goal near t x : Int} (hg : onB s goal = true) (ht : onB s t = true) (hx : x ∈ grid_nextA a b t 4) : hh a s goal near t ≤ hh a s goal near x + 1 := by
  have := far_step h hg ht hx
  unfold hh
  split <;> split <;> omega
theorem hh_path {a b : Int} {s : ByteArray} (h : Okd a b s) {B : Int → Bool} {goal near u : Int} (hg : onB s goal = true) (hu : onB s u = true) {k : Nat} {t : Int} (hr : Rch a b s B u k t) : hh a s goal near u ≤ hh a s goal near t + k := by
  induction hr with
  | here => omega
  | step hr hx hf ih =>
    have := hh_step h (near := near) hg (hr.on h hu) hx
    push_cast
    omega
/-- what the search knows; of one tile some neighbours are still to come -/
structure Sh (a b : Int) (s : ByteArray) (B : Int → Bool) (goal near from_ : Int) (F : Seen) (cur : Int) (pend : List Int) : Prop where
  snd : ∀ t g b' k, F t = some (g, b', k) → ∃ N : Nat, g = N ∧ Rch a b s B from_ N t
  adj : ∀ t g b' k, F t = some (g, b', k) → 0 < g → t ∈ grid_nextA a b b' 4 ∧ Free a b s B t
  opt : ∀ t g b', F t = some (g, b', true) → ∀ k : Nat, Rch a b s B from_ k t → g ≤ k
  off : ∀ t g b', F t = some (g, b', true) → hh a s goal near t ≠ 0
  exp : ∀ t g b', F t = some (g, b', true) → ∀ x, x ∈ grid_nextA a b t 4 → Free a b s B x → (t = cur ∧ x ∈ pend) ∨ ∃ g' b'' k, F x = some (g', b'', k) ∧ g' ≤ g + 1
  start : ∃ b' k, F from_ = some (0, b', k)
/-- a way leads out of what is closed through an open tile -/
theorem Sh.through {a b : Int} {s : ByteArray} {B : Int → Bool} {goal near from_ : Int} {F : Seen} {cur : Int} (h : Sh a b s B goal near from_ F cur []) {k : Nat} {t : Int} (hr : Rch a b s B from_ k t) :
    (∃ g b', F t = some (g, b', true) ∧ g ≤ k) ∨ ∃ u gu bu, F u = some (gu, bu, false) ∧ ∃ m : Nat, gu + m ≤ k ∧ Rch a b s B u m t := by
  induction hr with
  | here =>
    obtain ⟨b', k', hF⟩ := h.start
    cases k' with
    | true => exact .inl ⟨0, b', hF, by omega⟩
    | false => exact .inr ⟨_, 0, b', hF, 0, by omega, .here⟩
  | step hr hx hf ih =>
    rename_i k t x
    rcases ih with ⟨g, b', hF, hg⟩ | ⟨u, gu, bu, hF, m, hm, hp⟩
    · rcases h.exp t g b' hF x hx hf with ⟨-, hp⟩ | ⟨g', b'', k', hF', hg'⟩
      · cases hp
      · cases k' with
        | true => exact .inl ⟨g', b'', hF', by push_cast; omega⟩
        | false => exact .inr ⟨x, g', b'', hF', 0, by push_cast; omega, .here⟩
    · exact .inr ⟨u, gu, bu, hF, m + 1, by push_cast; omega, .step hp hx hf⟩
/-- the least open tile is closed: its number is the least -/
theorem Sh.take {a b : Int} {s : ByteArray} (ho : Okd a b s) {B : Int → Bool} {goal near from_ : Int} (hg : onB s goal = true) (hfr : onB s from_ = true) {F : Seen} {cur : Int} (h : Sh a b s B goal near from_ F cur []) {t g b' : Int} (hF : F t = some (g, b', false))
    (hmin : ∀ t' g' b'', F t' = some (g', b'', false) → le3 ⟨g + hh a s goal near t, hh a s goal near t, t⟩ ⟨g' + hh a s goal near t', hh a s goal near t', t'⟩) :
    (∀ k : Nat, Rch a b s B from_ k t → g ≤ k) ∧ (∀ k t', Rch a b s B from_ k t' → hh a s goal near t' = 0 → g + hh a s goal near t ≤ k) := by
  have key : ∀ (k : Nat) (t' : Int), Rch a b s B from_ k t' → (∀ g' b'', F t' ≠ some (g', b'', true)) → g + hh a s goal near t ≤ k + hh a s goal near t' := fun k t' hr hno => by
    rcases h.through hr with ⟨g', b'', hF', -⟩ | ⟨u, gu, bu, hFu, m, hm, hp⟩
    · exact absurd hF' (hno _ _)
    · obtain ⟨N, -, hru⟩ := h.snd _ _ _ _ hFu
      have hon := hru.on ho hfr
      have hpp := hh_path ho (near := near) hg hon hp
      have hle := hmin u gu bu hFu
      unfold le3 at hle
      rw [lt3_not] at hle
      simp only at hle
      omega
  refine ⟨fun k hr => ?_, fun k t' hr hz => ?_⟩
  · have := key k t hr (fun g' b'' hq => by rw [hF] at hq; simp at hq)
    omega
  · have := key k t' hr (fun g' b'' hq => h.off _ _ _ hq hz)
    omega
theorem Sh.closed {a b : Int} {s : ByteArray} {B : Int → Bool} {goal near from_ : Int} {F : Seen} {cur : Int} (h : Sh a b s B goal near from_ F cur []) {t g b' : Int} (hF : F t = some (g, b', false)) (hz : hh a s goal near t ≠ 0)
    (hopt : ∀ k : Nat, Rch a b s B from_ k t → g ≤ k) : Sh a b s B goal near from_ (sUp F t (g, b', true)) t (grid_nextA a b t 4) := by
  have old : ∀ u gu bu ku, sUp F t (g, b', true) u = some (gu, bu, ku) → (u = t ∧ gu = g ∧ bu = b') ∨ (u ≠ t ∧ F u = some (gu, bu, ku)) := fun u gu bu ku hq => by
    unfold sUp at hq
    by_cases e : u = t
    · rw [if_pos e] at hq
      simp only [Option.some.injEq, Prod.mk.injEq] at hq
      exact .inl ⟨e, hq.1.symm, hq.2.1.symm⟩
    · rw [if_neg e] at hq; exact .inr ⟨e, hq⟩
  have new : ∀ u gu bu ku, F u = some (gu, bu, ku) → ∃ k', sUp F t (g, b', true) u = some (gu, bu, k') := fun u gu bu ku hq => by
    unfold sUp
    by_cases e : u = t
    · rw [e, hF] at hq
      simp only [Option.some.injEq, Prod.mk.injEq] at hq
      exact ⟨true, by rw [if_pos e, hq.1, hq.2.1]⟩
    · exact ⟨ku, by rw [if_neg e]; exact hq⟩
  refine ⟨fun u gu bu ku hq => ?_, fun u gu bu ku hq hp => ?_, fun u gu bu hq k hr => ?_, fun u gu bu hq => ?_, fun u gu bu hq x hx hf => ?_, ?_⟩
  · rcases old _ _ _ _ hq with ⟨rfl, rfl, rfl⟩ | ⟨-, hq⟩
    · exact h.snd _ _ _ _ hF
    · exact h.snd _ _ _ _ hq
  · rcases old _ _ _ _ hq with ⟨rfl, rfl, rfl⟩ | ⟨-, hq⟩
    · exact h.adj _ _ _ _ hF hp
    · exact h.adj _ _ _ _ hq hp
  · rcases old _ _ _ _ hq with ⟨rfl, rfl, rfl⟩ | ⟨-, hq⟩
    · exact hopt k hr
    · exact h.opt _ _ _ hq k hr
  · rcases old _ _ _ _ hq with ⟨rfl, rfl, rfl⟩ | ⟨-, hq⟩
    · exact hz
    · exact h.off _ _ _ hq
  · rcases old _ _ _ _ hq with ⟨rfl, rfl, rfl⟩ | ⟨-, hq⟩
    · exact .inl ⟨rfl, hx⟩
    · rcases h.exp _ _ _ hq x hx hf with ⟨-, hp⟩ | ⟨g', b'', k, h1, h2⟩
      · cases hp
      · obtain ⟨k', h3⟩ := new _ _ _ _ h1
        exact .inr ⟨g', b'', k', h3, h2⟩
  · obtain ⟨b0, k0, h0⟩ := h.start
    obtain ⟨k', h3⟩ := new _ _ _ _ h0
    exact ⟨b0, k', h3⟩
/-- which are closed -/
def clB (F : Seen) (v : Nat) : Bool := match F (v : Int) with | some (_, _, true) => true | _ => false
/-- a neighbour is come to -/
theorem Sh.comes {a b : Int} {s : ByteArray} {B : Int → Bool} {goal near from_ : Int} {F : Seen} {tile x g0 b0 : Int} {r : List Int} (h : Sh a b s B goal near from_ F tile (x :: r)) (hF : F tile = some (g0, b0, true)) (hx : x ∈ grid_nextA a b tile 4) (hxt : x ≠ tile) (hf : Free a b s B x) :
    Sh a b s B goal near from_ (cm_F F x tile (g0 + 1)) tile r ∧ cm_F F x tile (g0 + 1) tile = some (g0, b0, true) ∧ ∀ v, clB (cm_F F x tile (g0 + 1)) v = clB F v := by
  obtain ⟨N, hN, hrt⟩ := h.snd _ _ _ _ hF
  have hrx : Rch a b s B from_ (N + 1) x := .step hrt hx hf
  by_cases hs : cm_skip F x (g0 + 1) = true
  · have hq : ∃ gx bx kx, F x = some (gx, bx, kx) ∧ gx ≤ g0 + 1 := by
      unfold cm_skip at hs
      cases hFx : F x with
      | none => rw [hFx] at hs; simp at hs
      | some y => obtain ⟨g, b, k⟩ := y; rw [hFx] at hs; exact ⟨g, b, k, rfl, by simpa using hs⟩
    unfold cm_F
    rw [if_pos hs]
    refine ⟨⟨h.snd, h.adj, h.opt, h.off, fun u gu bu hu y hy hfy => ?_, h.start⟩, hF, fun v => rfl⟩
    rcases h.exp u gu bu hu y hy hfy with ⟨rfl, hp⟩ | hp
    · rcases List.mem_cons.1 hp with rfl | hp
      · right
        rw [hF] at hu
        simp only [Option.some.injEq, Prod.mk.injEq] at hu
        obtain ⟨gx, bx, kx, h1, h2⟩ := hq
        exact ⟨gx, bx, kx, h1, by omega⟩
      · exact .inl ⟨rfl, hp⟩
    · exact .inr hp
  · have hbig : ∀ gx bx kx, F x = some (gx, bx, kx) → g0 + 1 < gx := fun gx bx kx hFx => by
      have : ¬ gx ≤ g0 + 1 := fun hle => hs (skip_true hFx hle)
      omega
    have hno : ∀ gx bx, F x ≠ some (gx, bx, true) := fun gx bx hFx => by
      have h1 := h.opt _ _ _ hFx _ hrx
      have h2 := hbig _ _ _ hFx
      push_cast at h1
      omega
    unfold cm_F
    rw [if_neg hs]
    have old : ∀ u gu bu ku, sUp F x (g0 + 1, tile, false) u = some (gu, bu, ku) → (u = x ∧ gu = g0 + 1 ∧ bu = tile ∧ ku = false) ∨ (u ≠ x ∧ F u = some (gu, bu, ku)) := fun u gu bu ku hq => by
      unfold sUp at hq
      by_cases e : u = x
      · rw [if_pos e] at hq
        simp only [Option.some.injEq, Prod.mk.injEq] at hq
        exact .inl ⟨e, hq.1.symm, hq.2.1.symm, hq.2.2.symm⟩
      · rw [if_neg e] at hq; exact .inr ⟨e, hq⟩
    have new : ∀ u gu bu ku, F u = some (gu, bu, ku) → ∃ g' b' k', sUp F x (g0 + 1, tile, false) u = some (g', b', k') ∧ g' ≤ gu := fun u gu bu ku hq => by
      unfold sUp
      by_cases e : u = x
      · rw [e] at hq
        have := hbig _ _ _ hq
        exact ⟨g0 + 1, tile, false, by rw [if_pos e], by omega⟩
      · exact ⟨gu, bu, ku, by rw [if_neg e]; exact hq, by omega⟩
    refine ⟨⟨fun u gu bu ku hq => ?_, fun u gu bu ku hq hp => ?_, fun u gu bu hq k hr => ?_, fun u gu bu hq => ?_, fun u gu bu hq y hy hfy => ?_, ?_⟩, by unfold sUp; rw [if_neg (fun e => hxt e.symm)]; exact hF, fun v => ?_⟩
    · rcases old _ _ _ _ hq with ⟨rfl, rfl, rfl, -⟩ | ⟨-, hq⟩
      · exact ⟨N + 1, by push_cast; omega, hrx⟩
      · exact h.snd _ _ _ _ hq
    · rcases old _ _ _ _ hq with ⟨rfl, rfl, rfl, -⟩ | ⟨-, hq⟩
      · exact ⟨hx, hf⟩
      · exact h.adj _ _ _ _ hq hp
    · rcases old _ _ _ _ hq with ⟨-, -, -, e⟩ | ⟨-, hq⟩
      · cases e
      · exact h.opt _ _ _ hq k hr
    · rcases old _ _ _ _ hq with ⟨-, -, -, e⟩ | ⟨-, hq⟩
      · cases e
      · exact h.off _ _ _ hq
    · rcases old _ _ _ _ hq with ⟨-, -, -, e⟩ | ⟨-, hq⟩
      · cases e
      · have hq2 : F u = some (gu, bu, true) := hq
        rcases h.exp u gu bu hq2 y hy hfy with ⟨e, hp⟩ | ⟨g', b', k', h1, h2⟩
        · rcases List.mem_cons.1 hp with e2 | hp
          · right
            rw [e, hF] at hq2
            simp only [Option.some.injEq, Prod.mk.injEq] at hq2
            exact ⟨g0 + 1, tile, false, by rw [e2]; unfold sUp; rw [if_pos rfl], by omega⟩
          · exact .inl ⟨e, hp⟩
        · obtain ⟨g3, b3, k3, h3, h4⟩ := new _ _ _ _ h1
          exact .inr ⟨g3, b3, k3, h3, by omega⟩
    · obtain ⟨b3, k3, h3⟩ := h.start
      have hne : from_ ≠ x := by
        intro e
        rw [e] at h3
        have := hbig _ _ _ h3
        omega
      exact ⟨b3, k3, by unfold sUp; rw [if_neg hne]; exact h3⟩
    · unfold clB sUp
      by_cases e : (v : Int) = x
      · rw [if_pos e]
        cases hv : F (v : Int) with
        | none => rfl
        | some y =>
          obtain ⟨gy, by_, ky⟩ := y
          cases ky with
          | false => rfl
          | true => rw [e] at hv; exact absurd hv (hno _ _)
      · rw [if_neg e]
theorem Sh.drop {a b : Int} {s : ByteArray} {B : Int → Bool} {goal near from_ : Int} {F : Seen} {tile x : Int} {r : List Int} (h : Sh a b s B goal near from_ F tile (x :: r)) (hf : ¬ Free a b s B x) : Sh a b s B goal near from_ F tile r :=
  ⟨h.snd, h.adj, h.opt, h.off, fun u gu bu hu y hy hfy => by
    rcases h.exp u gu bu hu y hy hfy with ⟨rfl, hp⟩ | hp
    · rcases List.mem_cons.1 hp with rfl | hp
      · exact absurd hfy hf
      · exact .inl ⟨rfl, hp⟩
    · exact .inr hp, h.start⟩
theorem in_short {a b : Int} {s : ByteArray} {B : Int → Bool} {goal near from_ : Int} (q : SP) (hq : q.mw = a ∧ q.mh = b ∧ q.ms = s) {tile g0 b0 : Int} : ∀ (r : List Int) (l : List S51) (F : Seen) (l' : List S51) (F' : Seen),
    fd_in q B tile r l F = some (l', F') → Sh a b s B goal near from_ F tile r → F tile = some (g0, b0, true) → (∀ x, x ∈ r → x ∈ grid_nextA a b tile 4 ∧ x ≠ tile) → Sh a b s B goal near from_ F' tile [] ∧ ∀ v, clB F' v = clB F v
  | [], l, F, l', F', hf, hS, hF, hx => by
    unfold fd_in at hf
    simp only [Option.some.injEq, Prod.mk.injEq] at hf
    obtain ⟨-, rfl⟩ := hf
    exact ⟨hS, fun _ => rfl⟩
  | x :: r, l, F, l', F', hf, hS, hF, hx => by
    unfold fd_in at hf
    obtain ⟨wk, hwk, hf⟩ := Option.bind_eq_some_iff.1 hf
    rw [hq.1, hq.2.1, hq.2.2] at hwk
    obtain ⟨hx1, hx2⟩ := hx x (List.mem_cons_self ..)
    by_cases hc : wk = true ∧ B x = false
    · rw [if_pos hc] at hf
      obtain ⟨d, hd, hf⟩ := Option.bind_eq_some_iff.1 hf
      rw [hF, Option.getD_some] at hf
      simp only at hf
      split at hf
      · obtain ⟨h1, h2, h3⟩ := hS.comes hF hx1 hx2 ⟨by rw [hwk, hc.1], hc.2⟩
        obtain ⟨h4, h5⟩ := in_short q hq r _ _ _ _ hf h1 h2 (fun y hy => hx y (List.mem_cons_of_mem _ hy))
        exact ⟨h4, fun v => (h5 v).trans (h3 v)⟩
      · cases hf
    · rw [if_neg hc] at hf
      refine in_short q hq r _ _ _ _ hf (hS.drop fun hfr => hc ⟨?_, hfr.2⟩) hF (fun y hy => hx y (List.mem_cons_of_mem _ hy))
      have := hfr.1
      rw [hwk] at this
      exact Option.some.inj this
theorem countP_lt {α : Type} (p p' : α → Bool) (l : List α) (x : α) (hx : x ∈ l) (h : ∀ y, p' y = true → p y = true) (hp : p x = true) (hp' : p' x = false) : l.countP p' + 1 ≤ l.countP p := by
  induction l with
  | nil => cases hx
  | cons y l ih =>
    rw [List.countP_cons, List.countP_cons]
    rcases List.mem_cons.1 hx with rfl | hx
    · rw [hp, hp']
      have : l.countP p' ≤ l.countP p := List.countP_mono_left fun z _ hz => h z hz
      simp
      omega
    · have := ih hx
      by_cases hy : p' y = true
      · rw [hy, h y hy]; simp; omega
      · have hy : p' y = false := by simpa using hy
        rw [hy]
        simp
        split <;> omega
/-- a way, step by step -/
def Fwd (a b : Int) (s : ByteArray) (B : Int → Bool) : Int → List Int → Int → Prop
  | u, [], t => u = t
  | u, x :: r, t => x ∈ grid_nextA a b u 4 ∧ Free a b s B x ∧ Fwd a b s B x r t
theorem Fwd.snoc {a b : Int} {s : ByteArray} {B : Int → Bool} : ∀ {u : Int} {r : List Int} {v x : Int}, Fwd a b s B u r v → x ∈ grid_nextA a b v 4 → Free a b s B x → Fwd a b s B u (r ++ [x]) x
  | u, [], v, x, h, hx, hf => by
    have h : u = v := h
    subst h
    exact ⟨hx, hf, rfl⟩
  | u, y :: r, v, x, h, hx, hf => ⟨h.1, h.2.1, Fwd.snoc h.2.2 hx hf⟩
theorem Fwd.rch {a b : Int} {s : ByteArray} {B : Int → Bool} {w : Int} : ∀ {r : List Int} {u t : Int} {k : Nat}, Rch a b s B w k u → Fwd a b s B u r t → Rch a b s B w (k + r.length) t
  | [], u, t, k, hk, h => by
    have h : u = t := h
    subst h
    exact hk
  | x :: r, u, t, k, hk, h => by
    have := Fwd.rch (.step hk h.1 h.2.1) h.2.2
    rw [List.length_cons, show k + (r.length + 1) = k + 1 + r.length by omega]
    exact this
theorem way_fwd {a b : Int} {s : ByteArray} {B : Int → Bool} {goal near from_ : Int} {F : Seen} {cur : Int} {pend : List Int} (h : Sh a b s B goal near from_ F cur pend) (hz : ∀ t g b' k, F t = some (g, b', k) → 0 ≤ g ∧ (g = 0 → t = from_)) (hback : ∀ t g by_ tk, F t = some (g, by_, tk) → 0 < g → ∃ g' b' k', F by_ = some (g', b', k')) :
    ∀ (k : Nat) (t : Int) (r : List Int), wy k F t = some r → (∃ g b' k', F t = some (g, b', k')) → Fwd a b s B from_ r.reverse t
  | 0, t, r, hw, _ => by simp [wy] at hw
  | k + 1, t, r, hw, ⟨g, b', k', hF⟩ => by
    unfold wy at hw
    rw [hF, Option.getD_some] at hw
    simp only at hw
    by_cases hg : 0 < g
    · rw [if_pos hg] at hw
      obtain ⟨r2, hr2, rfl⟩ := Option.map_eq_some_iff.1 hw
      obtain ⟨g2, b2, k2, h2⟩ := hback _ _ _ _ hF hg
      have ih := way_fwd h hz hback k b' r2 hr2 ⟨g2, b2, k2, h2⟩
      have := h.adj _ _ _ _ hF hg
      rw [List.reverse_cons]
      exact ih.snoc this.1 this.2
    · rw [if_neg hg] at hw
      obtain rfl := Option.some.inj hw
      have := hz _ _ _ _ hF
      exact (this.2 (by omega)).symm
/-- what a right answer is -/
def Good (a b : Int) (s : ByteArray) (B : Int → Bool) (goal near from_ : Int) (R : List Int × Bool) : Prop :=
  (R.2 = true → ∃ t, Fwd a b s B from_ R.1 t ∧ hh a s goal near t = 0 ∧ ∀ k t', Rch a b s B from_ k t' → hh a s goal near t' = 0 → R.1.length ≤ k) ∧ (R.2 = false → R.1 = [] ∧ ∀ k t', Rch a b s B from_ k t' → hh a s goal near t' ≠ 0)
theorem fd_short {a b : Int} {s : ByteArray} (h : Okd a b s) {goal near from_ : Int} (hn : 0 ≤ near ∧ near ≤ 9223372036854775807) (hg : onB s goal = true) (hfr : onB s from_ = true) (hs : s.size ≤ 400) (busy : List Int) (hbl : busy.length ≤ 1000) (q : SP) (hq : q.mw = a ∧ q.mh = b ∧ q.ms = s ∧ q.goal = goal ∧ q.near = near) :
    ∀ (n i : Nat) (all : List S58) (l : List S51) (F : Seen) (cur : Int) (R : List Int × Bool), n + i = 600 → Rl a s goal near from_ all l F i → l.length ≤ 1 + 4 * i → Sh a b s (fun x => decide (x ∈ busy)) goal near from_ F cur [] → i ≤ (List.range s.size).countP (clB F) →
      fd q (fun x => decide (x ∈ busy)) n l F = some R → Good a b s (fun x => decide (x ∈ busy)) goal near from_ R
  | 0, i, all, l, F, cur, R, hni, hR, hl, hS, hc, hfd => by
    have := List.countP_le_length (p := clB F) (l := List.range s.size)
    rw [List.length_range] at this
    omega
  | n + 1, i, all, l, F, cur, R, hni, hR, hl, hS, hc, hfd => by
    unfold fd at hfd
    rw [if_pos (by omega)] at hfd
    rcases tk_spec (hh a s goal near) (l.length + 1) l F (by omega) hR.hr with ⟨hno, hT⟩ | ⟨t, g, by_, l2, hF, hT, hr2, hl2, hmin⟩
    · rw [if_pos hT] at hfd
      obtain rfl := Option.some.inj hfd
      refine ⟨fun e0 => (by cases e0), fun _ => ⟨rfl, fun k t' hr hz => ?_⟩⟩
      rcases hS.through hr with ⟨g', b', hF', -⟩ | ⟨u, gu, bu, hFu, -⟩
      · exact hS.off _ _ _ hF' hz
      · exact hno _ _ _ hFu
    · have hon : onB s t = true := by
        cases ho : onB s t with
        | true => rfl
        | false => rw [hR.out t ho] at hF; cases hF
      have hot := onB_true hon
      have hR2 := hR.take hF hr2
      have hgb := hR.gb _ _ _ _ hF
      have hF2 : sUp F t (g, by_, true) t = some (g, by_, true) := by unfold sUp; rw [if_pos rfl]
      obtain ⟨hopt, hgoal⟩ := hS.take h hg hfr hF hmin
      rw [hT] at hfd
      simp only at hfd
      rw [if_neg (by decide)] at hfd
      by_cases hz : hh a s goal near t = 0
      · rw [if_pos hz] at hfd
        obtain ⟨r, w1, w2, -⟩ := way_rel hR2 (by omega) g.toNat t g by_ true hF2 (by omega)
        rw [w1 1000 (by omega), Option.bind_some] at hfd
        split at hfd
        · obtain rfl := Option.some.inj hfd
          refine ⟨fun _ => ⟨t, ?_, hz, fun k t' hr hz' => ?_⟩, fun e0 => (by cases e0)⟩
          · have hS2 : Sh a b s (fun x => decide (x ∈ busy)) goal near from_ F cur [] := hS
            have hw : wy 1000 F t = some r := by
              have e : ∀ (k : Nat) (u : Int), wy k (sUp F t (g, by_, true)) u = wy k F u := by
                intro k
                induction k with
                | zero => intro u; rfl
                | succ k ih =>
                  intro u
                  unfold wy
                  have e2 : ((sUp F t (g, by_, true) u).getD (0, 0, false)).1 = ((F u).getD (0, 0, false)).1 ∧ ((sUp F t (g, by_, true) u).getD (0, 0, false)).2.1 = ((F u).getD (0, 0, false)).2.1 := by
                    unfold sUp
                    by_cases eu : u = t
                    · rw [if_pos eu, eu, hF]; exact ⟨rfl, rfl⟩
                    · rw [if_neg eu]; exact ⟨rfl, rfl⟩
                  rw [e2.1, e2.2, ih]
              rw [← e]
              exact w1 1000 (by omega)
            exact way_fwd hS2 (fun u gu bu ku hu => ⟨(hR.gb _ _ _ _ hu).1, (hR.zero _ _ _ _ hu).1⟩) (fun u gu bu ku hu hp => by obtain ⟨g3, b3, k3, h3, -⟩ := hR.back _ _ _ _ hu hp; exact ⟨g3, b3, k3, h3⟩) 1000 t r hw ⟨g, by_, false, hF⟩
          · have := hgoal k t' hr hz'
            show r.reverse.length ≤ k
            rw [List.length_reverse]
            omega
        · cases hfd
      · rw [if_neg hz] at hfd
        have hnx : grid_Map_Next.f q.mw q.mh q.ms t = some (grid_nextA a b t 4) := by
          rw [hq.1, hq.2.1, hq.2.2.1]
          unfold grid_Map_Next.f
          rw [if_pos ⟨h.1, h.2.1, h.2.2.1, h.2.2.2.1, h.2.2.2.2⟩, if_pos hot]
        have hnl := grid_nextA_len a b t 4
        rw [hnx, Option.bind_some, if_pos (by omega)] at hfd
        obtain ⟨all', l', F', r1, r2, r3, -⟩ := in_rel h hn busy hbl q hq (grid_nextA a b t 4) hnl i (by omega) hon (fun x hx => ⟨(next_at h hon hx).1, next_ne h hon hx⟩) i (by omega) hgb.2 (grid_nextA a b t 4).length 0 _ l2 _ (by omega) (hR2.mono (by omega)) hF2 (by omega)
        rw [List.drop_zero] at r1
        rw [r1, Option.bind_some] at hfd
        obtain ⟨hS', hcl⟩ := in_short q ⟨hq.1, hq.2.1, hq.2.2.1⟩ _ _ _ _ _ r1 (hS.closed hF hz hopt) hF2 (fun x hx => ⟨hx, next_ne h hon hx⟩)
        refine fd_short h hn hg hfr hs busy hbl q hq n (i + 1) all' l' F' t R (by omega) (by have := r2.mono (show (i : Int) + 1 ≤ ((i + 1 : Nat) : Int) by omega); exact this) (by omega) hS' ?_ hfd
        have h1 : (List.range s.size).countP (clB F') = (List.range s.size).countP (clB (sUp F t (g, by_, true))) := by
          congr 1
          funext v
          exact hcl v
        rw [h1]
        have h2 := countP_lt (clB (sUp F t (g, by_, true))) (clB F) (List.range s.size) t.toNat (by rw [List.mem_range]; omega) (fun v hv => ?_) ?_ ?_
        · omega
        · unfold clB sUp
          by_cases e : (v : Int) = t
          · rw [if_pos e]
          · rw [if_neg e]; exact hv
        · unfold clB sUp
          rw [if_pos (by omega)]
        · unfold clB
          rw [show ((t.toNat : Nat) : Int) = t by omega, hF]
theorem sh_new {a b : Int} {s : ByteArray} {B : Int → Bool} {goal near from_ : Int} : Sh a b s B goal near from_ (cm_F (fun _ => none) from_ from_ 0) 0 [] := by
  have hF : cm_F (fun _ => none) from_ from_ 0 = sUp (fun _ => none) from_ (0, from_, false) := rfl
  rw [hF]
  have old : ∀ t g b' k, sUp (fun _ => none) from_ (0, from_, false) t = some (g, b', k) → t = from_ ∧ g = 0 ∧ b' = from_ ∧ k = false := fun t g b' k hq => by
    unfold sUp at hq
    by_cases e : t = from_
    · rw [if_pos e] at hq
      simp only [Option.some.injEq, Prod.mk.injEq] at hq
      obtain ⟨rfl, rfl, rfl⟩ := hq
      exact ⟨e, rfl, rfl, rfl⟩
    · rw [if_neg e] at hq; cases hq
  refine ⟨fun t g b' k hq => ?_, fun t g b' k hq hp => ?_, fun t g b' hq => ?_, fun t g b' hq => ?_, fun t g b' hq => ?_, ⟨from_, false, by unfold sUp; rw [if_pos rfl]⟩⟩
  · obtain ⟨rfl, rfl, -, -⟩ := old _ _ _ _ hq
    exact ⟨0, rfl, .here⟩
  · obtain ⟨-, rfl, -, -⟩ := old _ _ _ _ hq; omega
  · obtain ⟨-, -, -, e⟩ := old _ _ _ _ hq; cases e
  · obtain ⟨-, -, -, e⟩ := old _ _ _ _ hq; cases e
  · obtain ⟨-, -, -, e⟩ := old _ _ _ _ hq; cases e
/-- Find's answer is right -/
theorem find_good {a b : Int} {s : ByteArray} (h : Okd a b s) {goal near from_ : Int} (hn : 0 ≤ near ∧ near ≤ 9223372036854775807) (hg : onB s goal = true) (hfr : onB s from_ = true) (hs : s.size ≤ 400) (busy : List Int) (hbl : busy.length ≤ 1000) (bz : Value) (gm : Nat) (R : List Int × Bool)
    (hR : fd ⟨a, b, s, bz, goal, near, gm⟩ (fun x => decide (x ∈ busy)) 600 (cm_l (fun _ => none) [] from_ 0 (if near < farI a s from_ goal then farI a s from_ goal - near else 0)) (cm_F (fun _ => none) from_ from_ 0) = some R) :
    Good a b s (fun x => decide (x ∈ busy)) goal near from_ R := by
  have hl1 : (cm_l (fun _ => none) [] from_ 0 (hh a s goal near from_)).length ≤ 1 + 4 * 0 := by
    show (hp_push [] _).length ≤ _
    rw [hp_push_len]; decide
  exact fd_short h hn hg hfr hs busy hbl ⟨a, b, s, bz, goal, near, gm⟩ ⟨rfl, rfl, rfl, rfl, rfl⟩ 600 0 _ _ _ 0 R (by omega) (rl_new h hn.1 hfr) hl1 sh_new (Nat.zero_le _) hR
end Go.Proofs.Ytkbimhngbdbgdaa.Pure
