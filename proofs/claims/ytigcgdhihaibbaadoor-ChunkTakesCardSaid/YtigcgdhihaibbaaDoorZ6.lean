import Derived.Test.YtigcgdhihaibbaaDoorZ5
namespace Go.Proofs.YtigcgdhihaibbaaDoor.PLz
open Go.RowKit Go.Proofs.YtigcgdhihaibbaaDoorW.PrintWords Go.Proofs.YtigcgdhihaibbaaDoorW.PrintLast Go.Proofs.YtigcgdhihaibbaaDoorW.PrintMore
attribute [local go_sem] max2_int min2_int max_two min_two max_three min_three max_four min_four   -- for this text's walks alone
set_option linter.unusedVariables false
set_option linter.unusedSimpArgs false
theorem lz_keep_setBlock {W w' : World} {gm : Nat} {row : Option Nat} (o : Obj) (h : KeepBut W w' gm row) : KeepBut W (ChangeMaps.setBlock w' gm o) gm row := by
  refine ⟨by simpa [ChangeMaps.setBlock] using h.1, fun i hi hne hr => ?_⟩
  rw [← h.2 i hi hne hr]
  simp [ChangeMaps.setBlock, Array.getElem?_setIfInBounds, show ¬ gm = i from fun e => hne e.symm]
theorem lz_below_setBlock {w0 w' : World} {B gm : Nat} (o : Obj) (h : Below B w0 w') (hg : B ≤ gm) : Below B w0 (ChangeMaps.setBlock w' gm o) :=
  ⟨h.os, h.tape, h.output, by simpa [ChangeMaps.setBlock] using h.size, fun i hi => by rw [← h.block i hi]; simp [ChangeMaps.setBlock, Array.getElem?_setIfInBounds, show ¬ gm = i by omega]⟩
theorem lz_set_other {w' : World} {gm i : Nat} (o : Obj) (h : i ≠ gm) : (ChangeMaps.setBlock w' gm o).heap[i]? = w'.heap[i]? := by
  simp [ChangeMaps.setBlock, Array.getElem?_setIfInBounds, show ¬ gm = i from fun e => h e.symm]
theorem lz_R_map {α : Type} {d : Kd α} {e B gm c : Nat} {W : World} {v : Value} {xs : List α} {es : Array MapEntry} (o : Obj) (h : d.R e W B (fun _ => True) v xs) (hb : W.heap[gm]? = some (.map es c)) : d.R e (ChangeMaps.setBlock W gm o) B (fun _ => True) v xs := by
  refine Kd.R_mono (Kd.R_step (Kd.R_bound h) (fun k hk _ => lz_set_other o (fun e => ?_))) (fun _ _ => trivial)
  obtain ⟨_, _, _, q, _, cells, hc⟩ := hk
  rw [e, hb] at hc
  cases hc
/-- what holds of a packer: the block, the argument, the places that were seen, what came out -/
structure lz_St (w0 W : World) (g gm : Nat) (A : Option Addr) (c : Nat) (b : List Int) (at_ plain : Nat) (vo : Value) (out : List Int) (L : List ((Int × Int × Int) × Value)) : Prop where
  blk : lz_Blk W g A b.length c at_ gm vo plain
  hb : Below w0.heap.size w0 W
  seen : lz_Seen W w0.heap.size gm b at_ L
  out : Kd.R (Kd.int .u8) 5 W w0.heap.size (fun _ => True) vo out
  gb : w0.heap.size ≤ g
  gmb : w0.heap.size ≤ gm
theorem lz_St.next {w0 W W' : World} {g gm : Nat} {A : Option Addr} {c : Nat} {b : List Int} {at_ plain : Nat} {vo : Value} {out : List Int} {L : List ((Int × Int × Int) × Value)} (h : lz_St w0 W g gm A c b at_ plain vo out L) (hb : Below W.heap.size W W') : lz_St w0 W' g gm A c b at_ plain vo out L :=
  ⟨(hb.block _ (blk_lt h.blk)).trans h.blk, below_then h.hb h.hb.size hb, h.seen.below hb, Kd.R_below h.out hb, h.gb, h.gmb⟩
theorem lz_poss_next {b : List Int} {at_ : Nat} (k : Int × Int × Int) : lz_poss b (at_ + 1) k = if at_ + 3 ≤ b.length ∧ lz_key b at_ = k then lz_poss b at_ k ++ [at_] else lz_poss b at_ k := by
  unfold lz_poss
  rw [List.range_succ, List.filter_append]
  by_cases h : at_ + 3 ≤ b.length ∧ lz_key b at_ = k
  · rw [if_pos h]
    simp [h.1, h.2]
  · rw [if_neg h]
    have : (decide (at_ + 3 ≤ b.length) && (lz_key b at_ == k)) = false := by
      rw [Bool.and_eq_false_iff]
      by_cases h1 : at_ + 3 ≤ b.length
      · right; simpa using fun e => h ⟨h1, e⟩
      · left; simpa using h1
    simp [this]
theorem lz_g_gm {W : World} {g gm m c at_ plain : Nat} {A : Option Addr} {vo : Value} {L : List ((Int × Int × Int) × Value)} (hg : lz_Blk W g A m c at_ gm vo plain) (hm : lz_Map W gm L) : g ≠ gm := by
  obtain ⟨es, clock, hb, _⟩ := hm
  intro e
  subst e
  have := (show W.heap[g]? = _ from hg).symm.trans hb
  cases this
theorem lz_g_row {W : World} {g gm m c at_ plain B : Nat} {A : Option Addr} {vo v : Value} {l : List Int} (hg : lz_Blk W g A m c at_ gm vo plain) (hR : Kd.R (Kd.int .i64) 3 W B (fun _ => True) v l) : some g ≠ v.ownBlock := Kd.R_ne hR hg (by decide)
theorem lz_g_out {W : World} {g gm m c at_ plain B : Nat} {A : Option Addr} {vo v : Value} {l : List Int} (hg : lz_Blk W g A m c at_ gm vo plain) (hR : Kd.R (Kd.int .u8) 5 W B (fun _ => True) v l) : some g ≠ v.ownBlock := Kd.R_ne hR hg (by decide)
theorem lz_gm_row {α : Type} {d : Kd α} {W : World} {gm e B : Nat} {v : Value} {l : List α} {L : List ((Int × Int × Int) × Value)} (hm : lz_Map W gm L) (hR : d.R e W B (fun _ => True) v l) : v.ownBlock ≠ some gm := by
  obtain ⟨es, clock, hb, _⟩ := hm
  intro e1
  obtain ⟨_, _, _, q, _, cells, hc⟩ := (Kd.R_bound hR).1 gm e1
  rw [hb] at hc
  cases hc
/-- one more place, kept -/
theorem lz_Seen.step {w0 W W' : World} {gm : Nat} {b : List Int} {at_ : Nat} {L : List ((Int × Int × Int) × Value)} {v1 : Value} (h : lz_Seen W w0.heap.size gm b at_ L) (h3 : at_ + 3 ≤ b.length)
    (hm : lz_Map W' gm (lz_put L (lz_key b at_) v1)) (hr : Kd.R (Kd.int .i64) 3 W' w0.heap.size (fun _ => True) v1 (lz_ints (lz_poss b at_ (lz_key b at_)) ++ [(at_ : Int)]))
    (hK : KeepBut W W' gm (lz_get L (lz_key b at_)).ownBlock) (hat : v1.ownBlock = (lz_get L (lz_key b at_)).ownBlock ∨ ∃ q, v1.ownBlock = some q ∧ W.heap.size ≤ q) : lz_Seen W' w0.heap.size gm b (at_ + 1) (lz_put L (lz_key b at_) v1) := by
  have hn : (L.map (·.1)).Nodup := by obtain ⟨es, clock, _, _, _, _, _, hn⟩ := h.map; exact hn
  refine ⟨hm, fun k => ?_, ?_⟩
  · rw [lz_poss_next]
    by_cases hk : lz_key b at_ = k
    · subst hk
      rw [if_pos ⟨h3, rfl⟩, lz_get_put _ _ _ hn]
      have : lz_ints (lz_poss b at_ (lz_key b at_) ++ [at_]) = lz_ints (lz_poss b at_ (lz_key b at_)) ++ [(at_ : Int)] := by simp [lz_ints]
      rw [this]
      exact hr
    · rw [if_neg (fun e => hk e.2), lz_get_other _ (fun e => hk e.symm)]
      have h1 := h.row k
      have h2 := h.apart k (lz_key b at_) (fun e => hk e.symm)
      refine Kd.R_mono (ok := fun q => q ≠ gm ∧ some q ≠ (lz_get L (lz_key b at_)).ownBlock) (Kd.R_step ⟨fun q hq => ⟨?_, ?_⟩, h1.2⟩ (fun q hq hlt => hK.2 q hlt hq.1 hq.2)) (fun _ _ => trivial)
      · intro e; subst e; exact lz_gm_row h.map h1 hq
      · rcases h2 with h2 | h2
        · rw [h2] at hq; cases hq
        · intro e; exact h2 (hq.trans e)
  · have key : ∀ k', k' ≠ lz_key b at_ → v1.ownBlock = none ∨ v1.ownBlock ≠ (lz_get L k').ownBlock := by
      intro k' hk'
      rcases hat with e | ⟨q, e, hq⟩
      · rw [e]; exact h.apart _ _ (fun e => hk' e.symm)
      · right
        intro e2
        have := Kd.R_lt (h.row k') q (by rw [← e2]; exact e)
        omega
    intro k k' hkk
    by_cases h1 : k = lz_key b at_
    · subst h1
      rw [lz_get_put _ _ _ hn, lz_get_other _ (fun e => hkk e.symm)]
      exact key k' (fun e => hkk e.symm)
    · rw [lz_get_other _ h1]
      by_cases h2 : k' = lz_key b at_
      · subst h2
        rw [lz_get_put _ _ _ hn]
        rcases key k h1 with e | e
        · by_cases e3 : (lz_get L k).ownBlock = none
          · exact .inl e3
          · right; rw [e]; exact e3
        · exact .inr (fun e2 => e e2.symm)
      · rw [lz_get_other _ h2]
        exact h.apart k k' hkk
theorem lz_R_keep {w0 W W' : World} {gm : Nat} {v vo : Value} {l out : List Int} {L : List ((Int × Int × Int) × Value)} (hm : lz_Map W gm L) (hr : Kd.R (Kd.int .i64) 3 W w0.heap.size (fun _ => True) v l) (ho : Kd.R (Kd.int .u8) 5 W w0.heap.size (fun _ => True) vo out) (hK : KeepBut W W' gm v.ownBlock) : Kd.R (Kd.int .u8) 5 W' w0.heap.size (fun _ => True) vo out := by
  refine Kd.R_mono (Kd.R_step (Kd.R_bound ho) (fun k hk hlt => hK.2 k hlt ?_ ?_)) (fun _ _ => trivial)
  · intro e
    subst e
    obtain ⟨es, clock, hb, _⟩ := hm
    obtain ⟨_, _, _, q, _, cells, hc⟩ := hk
    rw [hb] at hc
    cases hc
  · intro e
    obtain ⟨_, _, _, q, hq, cells, hc⟩ := hk
    obtain ⟨_, _, _, q', hq', cells', hc'⟩ := (Kd.R_bound hr).1 k e.symm
    rw [hc] at hc'
    injection hc' with h1
    injection h1 with h2 h3 h4
    have a : q = 5 := by simpa [Kd.E, Kd.int, Kd.scalar] using hq
    have b : q' = 3 := by simpa [Kd.E, Kd.int, Kd.scalar] using hq'
    rw [a, b] at h3
    exact absurd h3 (by decide)
/-- the packer's place is set -/
theorem lz_St.go {w0 W : World} {g gm : Nat} {A : Option Addr} {c : Nat} {b : List Int} {at_ plain : Nat} {vo : Value} {out : List Int} {L : List ((Int × Int × Int) × Value)} (at2 : Nat) (hblk : lz_Blk W g A b.length c at_ gm vo plain)
    (hb : Below w0.heap.size w0 W) (seen : lz_Seen W w0.heap.size gm b at2 L) (ho : Kd.R (Kd.int .u8) 5 W w0.heap.size (fun _ => True) vo out) (gb : w0.heap.size ≤ g) (gmb : w0.heap.size ≤ gm) : lz_St w0 (W.setCell ⟨g, 1, none⟩ (.int .i64 at2)) g gm A c b at2 plain vo out L := by
  refine ⟨by unfold lz_Blk; simpa using blk_set hblk 1 (.int .i64 at2), hb.setCell gb _, ⟨lz_Map_next seen.map (Below.heap_setCell _ _ _ _ (fun e => lz_g_gm hblk seen.map e.symm)), fun k => ?_, seen.apart⟩, ?_, gb, gmb⟩
  · exact Kd.R_mono (Kd.R_set (seen.row k) hblk (by simp [Kd.E, Kd.int, Kd.scalar]) 1 _) (fun _ _ => trivial)
  · exact Kd.R_mono (Kd.R_set ho hblk (by simp [Kd.E, Kd.int, Kd.scalar]) 1 _) (fun _ _ => trivial)
end Go.Proofs.YtigcgdhihaibbaaDoor.PLz
