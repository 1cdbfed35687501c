/- Path: the search's state: its block, its heap, its map. No condition. -/
import Derived.Test.YtkbimhngbdbgdaaFar
namespace Go.Proofs.Ytkbimhngbdbgdaa.PPathFinds
open Go.RowKit Go.Proofs.YtkbimhngbdbgdaaW.PrintWords Go.Proofs.YtkbimhngbdbgdaaW.PrintLast Go.Proofs.YtkbimhngbdbgdaaW.PrintMore
set_option linter.unusedVariables false
set_option linter.unusedSimpArgs false
def seenV (x : Int × Int × Bool) : Value := .agg #[.int .i64 x.1, .int .i64 x.2.1, .bool x.2.2]
structure Ss (w W : World) (g : Nat) (q : SP) (v : Value) (l : List S51) (F : Int → Option (Int × Int × Bool)) : Prop where
  hp : Hp w W g q v l
  map : MapIs W q.gm (fun k => (F k).map seenV)
  gmb : w.heap.size ≤ q.gm
/-- what else lies, lies on -/
def Fr (W W' : World) (g gm : Nat) (row : Option Nat) : Prop := W.heap.size ≤ W'.heap.size ∧ ∀ i, i < W.heap.size → i ≠ g → i ≠ gm → some i ≠ row → W'.heap[i]? = W.heap[i]?
theorem Fr.refl (W : World) (g gm : Nat) (row : Option Nat) : Fr W W g gm row := ⟨Nat.le_refl _, fun _ _ _ _ _ => rfl⟩
theorem Fr.of_keep {W W' : World} {g : Nat} {row : Option Nat} (h : KeepBut W W' g row) (gm : Nat) : Fr W W' g gm row := ⟨h.1, fun i hi hg _ hr => h.2 i hi hg hr⟩
theorem Fr.of_below {W W' : World} (h : Below W.heap.size W W') (g gm : Nat) (row : Option Nat) : Fr W W' g gm row := ⟨h.size, fun i hi _ _ _ => h.block i hi⟩
theorem Fr.of_but {W W' : World} {gm : Nat} (h : But W W' gm) (g : Nat) (row : Option Nat) : Fr W W' g gm row := ⟨by rw [h.size]; exact Nat.le_refl _, fun i hi _ hm _ => h.block i hm⟩
theorem Fr.trans {W W1 W2 : World} {g gm : Nat} {row row1 : Option Nat} (h : Fr W W1 g gm row) (k : Fr W1 W2 g gm row1) (hr : row1 = row ∨ ∃ b, row1 = some b ∧ W.heap.size ≤ b) : Fr W W2 g gm row :=
  ⟨Nat.le_trans h.1 k.1, fun i hi hg hm hn => by
    refine (k.2 i (Nat.lt_of_lt_of_le hi h.1) hg hm ?_).trans (h.2 i hi hg hm hn)
    rcases hr with rfl | ⟨b, rfl, hb⟩
    · exact hn
    · intro e
      injection e with e
      omega⟩
theorem Fr.blk {W W1 : World} {g gm k : Nat} {row : Option Nat} {o : Obj} (h : Fr W W1 g gm row) (hb : W.heap[k]? = some o) (hg : k ≠ g) (hm : k ≠ gm) (hr : some k ≠ row) : W1.heap[k]? = some o := (h.2 k (blk_lt hb) hg hm hr).trans hb
theorem Mv.trans {W W1 : World} {v v1 v2 : Value} (h : Mv W v v1) (k : Mv W1 v1 v2) (hs : W.heap.size ≤ W1.heap.size) : Mv W v v2 := by
  rcases k with k | ⟨b, k, hb⟩
  · rcases h with h | ⟨b, h, hb⟩
    · exact .inl (k.trans h)
    · exact .inr ⟨b, k.trans h, hb⟩
  · exact .inr ⟨b, k, Nat.le_trans hs hb⟩
theorem Mv.refl (W : World) (v : Value) : Mv W v v := .inl rfl
/-- a block that was there and is none of the row's stays none of it -/
theorem Mv.ne {W : World} {v v1 : Value} {k : Nat} (h : Mv W v v1) (hk : k < W.heap.size) (hn : some k ≠ v.ownBlock) : some k ≠ v1.ownBlock := by
  rcases h with h | ⟨b, h, hb⟩
  · rw [h]; exact hn
  · rw [h]; intro e; injection e with e; omega
theorem Hp.gm_ne {w W : World} {g gm : Nat} {q : SP} {v : Value} {l : List S51} {f : Int → Option Value} (h : Hp w W g q v l) (hm : MapIs W gm f) : some gm ≠ v.ownBlock := by
  intro e
  obtain ⟨_, ho⟩ := Kd.R_own h.own
  obtain ⟨_, hc⟩ := own_typed ho gm e.symm
  exact hm.ne_cells hc rfl
theorem Hp.but {w W W' : World} {g gm : Nat} {q : SP} {v : Value} {l : List S51} {f : Int → Option Value} (h : Hp w W g q v l) (hm : MapIs W gm f) (hb : But W W' gm) (hgm : w.heap.size ≤ gm) : Hp w W' g q v l := by
  refine ⟨⟨hb.os.trans h.bel.os, hb.tape.trans h.bel.tape, hb.output.trans h.bel.output, by rw [hb.size]; exact h.bel.size, fun k hk => (hb.block k (by omega)).trans (h.bel.block k hk)⟩, (hb.block g (hm.ne_cells h.blk)).trans h.blk, h.gb, ?_⟩
  refine Kd.R_mono (Kd.R_step (Kd.R_bound h.own) (fun k hk _ => hb.block k ?_)) (fun _ _ => trivial)
  obtain ⟨_, _, _, t, _, cells, hc⟩ := hk
  exact hm.ne_cells hc
theorem Ss.next {w W W' : World} {g : Nat} {q : SP} {v : Value} {l : List S51} {F : Int → Option (Int × Int × Bool)} (h : Ss w W g q v l F) (hb : Below W.heap.size W W') : Ss w W' g q v l F :=
  ⟨h.hp.next hb, h.map.keep (hb.block _ h.map.lt), h.gmb⟩
def sUp (F : Int → Option (Int × Int × Bool)) (k : Int) (x : Int × Int × Bool) : Int → Option (Int × Int × Bool) := fun j => if j = k then some x else F j
theorem sUp_map (F : Int → Option (Int × Int × Bool)) (k : Int) (x : Int × Int × Bool) : mUp (fun j => (F j).map seenV) k (seenV x) = fun j => (sUp F k x j).map seenV := by
  funext j
  unfold mUp sUp
  split <;> rfl
/-- a tile is written down -/
theorem Ss.put {w W : World} {g : Nat} {q : SP} {v : Value} {l : List S51} {F : Int → Option (Int × Int × Bool)} (h : Ss w W g q v l F) (k : Int) (x : Int × Int × Bool) :
    ∃ W', (Instr.mapUpdate 44 (.map (some q.gm)) (.int .i64 k) (.agg #[.int .i64 x.1, .int .i64 x.2.1, .bool x.2.2])).run Try.prog W = .ok () W' ∧ Ss w W' g q v l (sUp F k x) ∧ Fr W W' g q.gm v.ownBlock ∧ Below w.heap.size w W' := by
  obtain ⟨W', hr, hm, hb⟩ := map_put Try.underlying44 h.map k (seenV x)
  rw [sUp_map] at hm
  have hH := h.hp.but h.map hb h.gmb
  exact ⟨W', hr, ⟨hH, hm, h.gmb⟩, Fr.of_but hb _ _, hH.bel⟩
/-- a tile is looked up -/
theorem Ss.find {w W : World} {g : Nat} {q : SP} {v : Value} {l : List S51} {F : Int → Option (Int × Int × Bool)} (h : Ss w W g q v l F) (k : Int) :
    ∃ a b c d, (Instr.lookup 44 (.map (some q.gm)) (.int .i64 k) true).run Try.prog W = .ok (.tuple #[.agg #[.int .i64 a, .int .i64 b, .bool c], .bool d]) W ∧ (Instr.lookup 44 (.map (some q.gm)) (.int .i64 k) false).run Try.prog W = .ok (.agg #[.int .i64 a, .int .i64 b, .bool c]) W ∧
      (F k).getD (0, 0, false) = (a, b, c) ∧ (F k).isSome = d := by
  have hz : (zeroValue 55).run Try.prog W = .ok (.agg #[.int .i64 0, .int .i64 0, .bool false]) W := by kernel_rfl
  have h1 := map_lookup_ok Try.underlying44 hz h.map k
  have h2 := map_lookup Try.underlying44 hz h.map k
  cases hF : F k with
  | none =>
    rw [hF] at h1 h2
    exact ⟨0, 0, false, false, h1, h2, rfl, rfl⟩
  | some x =>
    rw [hF] at h1 h2
    exact ⟨x.1, x.2.1, x.2.2, true, h1, h2, rfl, rfl⟩
theorem Ss.push {w W W' : World} {g : Nat} {q : SP} {v v' : Value} {l l' : List S51} {F : Int → Option (Int × Int × Bool)} (h : Ss w W g q v l F) (hp : Hp w W' g q v' l') (hk : KeepBut W W' g v.ownBlock) : Ss w W' g q v' l' F :=
  ⟨hp, h.map.keep (hk.2 _ h.map.lt (fun e => h.map.ne_cells h.hp.blk e.symm) (h.hp.gm_ne h.map)), h.gmb⟩
end Go.Proofs.Ytkbimhngbdbgdaa.PPathFinds
