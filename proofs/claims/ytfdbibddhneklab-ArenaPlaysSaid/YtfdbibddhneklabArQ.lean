import Derived.Test.YtfdbibddhneklabArW
namespace Go.Proofs.Ytfdbibddhneklab.Arena
open Go.RowKit
set_option linter.unusedVariables false
set_option linter.unusedSimpArgs false
set_option maxRecDepth 100000
set_option maxHeartbeats 1000000
/-- the document's arena: the same slots, told field by field -/
def rcl (L : List Sl) : List Value := L.map (fun s => Value.int .i64 s.2.1) ++ (L.map (fun s => Value.int .i64 s.1) ++ L.map (fun s => Value.bool s.2.2))
def rcs (L : List Sl) : Array Value := (rcl L).toArray
theorem rcs_size (L : List Sl) : (rcs L).size = 3 * L.length := by simp [rcs, rcl]; omega
theorem rcs_one (L : List Sl) : (rcs L).all (·.oneCell') = true := by
  rw [Array.all_eq_true_iff_forall_mem]
  intro v hv
  simp only [rcs, rcl, List.mem_toArray, List.mem_append, List.mem_map] at hv
  rcases hv with ⟨s, _, rfl⟩ | ⟨s, _, rfl⟩ | ⟨s, _, rfl⟩ <;> rfl
theorem rcs_g (L : List Sl) (hL : L.length = 128) (k : Nat) (h : k < 128) : (rcs L)[k]? = some (.int .i64 (sG L k)) := by
  unfold rcs rcl sG
  rw [List.getElem?_toArray, List.getElem?_append_left (by simp; omega)]
  simp [List.getD_eq_getElem?_getD, show k < L.length by omega]
theorem rcs_x (L : List Sl) (hL : L.length = 128) (k : Nat) (h : k < 128) : (rcs L)[128 + k]? = some (.int .i64 (sX L k)) := by
  unfold rcs rcl sX
  rw [List.getElem?_toArray, List.getElem?_append_right (by simp; omega), List.getElem?_append_left (by simp; omega)]
  have hk : k < L.length := by omega
  simp [List.getD_eq_getElem?_getD, hL, List.getElem?_eq_getElem hk]
theorem rcs_u (L : List Sl) (hL : L.length = 128) (k : Nat) (h : k < 128) : (rcs L)[256 + k]? = some (.bool (sU L k)) := by
  unfold rcs rcl sU
  rw [List.getElem?_toArray, List.getElem?_append_right (by simp; omega), List.getElem?_append_right (by simp; omega)]
  have hk : k < L.length := by omega
  simp [List.getD_eq_getElem?_getD, hL, List.getElem?_eq_getElem hk, show 256 + k - 128 - 128 = k by omega]
theorem rcs_setg (L : List Sl) (hL : L.length = 128) (k : Nat) (h : k < 128) (g : Int) : (rcs L).setIfInBounds k (.int .i64 g) = rcs (L.set k (sX L k, g, sU L k)) := by
  unfold rcs rcl
  rw [List.setIfInBounds_toArray, List.set_append_left _ _ (by simp; omega)]
  congr 1
  have hk : k < L.length := by omega
  simp only [List.map_set, sX, sU, List.getD_eq_getElem?_getD, List.getElem?_eq_getElem hk, Option.getD_some]
  congr 1
  congr 1
  · apply List.ext_getElem
    · simp
    · intro i h1 h2; rw [List.getElem_set]; split
      · subst_vars; simp
      · rfl
  · apply List.ext_getElem
    · simp
    · intro i h1 h2; rw [List.getElem_set]; split
      · subst_vars; simp
      · rfl
theorem rcs_setx (L : List Sl) (hL : L.length = 128) (k : Nat) (h : k < 128) (x : Int) : (rcs L).setIfInBounds (128 + k) (.int .i64 x) = rcs (L.set k (x, sG L k, sU L k)) := by
  unfold rcs rcl
  rw [List.setIfInBounds_toArray, List.set_append_right _ _ (by simp; omega), List.set_append_left _ _ (by simp; omega)]
  congr 1
  have hk : k < L.length := by omega
  simp only [List.map_set, sG, sU, List.getD_eq_getElem?_getD, List.getElem?_eq_getElem hk, Option.getD_some, List.length_map, hL, Nat.add_sub_cancel_left]
  congr 1
  · apply List.ext_getElem
    · simp
    · intro i h1 h2; rw [List.getElem_set]; split
      · subst_vars; simp
      · rfl
  · congr 1
    apply List.ext_getElem
    · simp
    · intro i h1 h2; rw [List.getElem_set]; split
      · subst_vars; simp
      · rfl
theorem rcs_setu (L : List Sl) (hL : L.length = 128) (k : Nat) (h : k < 128) (u : Bool) : (rcs L).setIfInBounds (256 + k) (.bool u) = rcs (L.set k (sX L k, sG L k, u)) := by
  unfold rcs rcl
  rw [List.setIfInBounds_toArray, List.set_append_right _ _ (by simp; omega), List.set_append_right _ _ (by simp; omega)]
  congr 1
  have hk : k < L.length := by omega
  simp only [List.map_set, sG, sX, List.getD_eq_getElem?_getD, List.getElem?_eq_getElem hk, Option.getD_some, List.length_map, hL, show 256 + k - 128 - 128 = k by omega]
  congr 1
  · apply List.ext_getElem
    · simp
    · intro i h1 h2; rw [List.getElem_set]; split
      · subst_vars; simp
      · rfl
  · congr 1
    apply List.ext_getElem
    · simp
    · intro i h1 h2; rw [List.getElem_set]; split
      · subst_vars; simp
      · rfl
theorem info67 (L : List Sl) (hL : L.length = 128) : ((Try.prog.info? 67).map (·.size)) = some (rcs L).size := by rw [rcs_size, hL]; kernel_rfl
theorem zero67 (W : World) : (zeroValue 67).run Try.prog W = .ok (.agg (rcs (List.replicate 128 (0, 0, false)))) W := by kernel_rfl
theorem zero67' (W : World) : (zeroValue 67).run Try.prog W = .ok (.agg (rcs Z0)) W := zero67 W
def LiesR (W : World) (g : Nat) (L : List Sl) : Prop := W.heap[g]? = some (.cells (rcs L) 67 (0, 0))
theorem LiesR.next {W W' : World} {g : Nat} {L : List Sl} (h : LiesR W g L) (hb : Below W.heap.size W W') : LiesR W' g L := (hb.block g (Array.getElem?_eq_some_iff.1 h).1).trans h
theorem LiesR.lt {W : World} {g : Nat} {L : List Sl} (h : LiesR W g L) : g < W.heap.size := (Array.getElem?_eq_some_iff.1 h).1
theorem LiesR.cell {W : World} {g : Nat} {L : List Sl} (h : LiesR W g L) (i : Nat) : W.cell? ⟨g, i, none⟩ = (rcs L)[i]? := cell_of_row W g i _ 67 (0, 0) h
theorem LiesR.frozen {W : World} {g : Nat} {L : List Sl} (h : LiesR W g L) (i : Nat) : W.frozen? ⟨g, i, none⟩ = false := frozen_of_row W g i _ 67 h
theorem LiesR.far {W : World} {g : Nat} {L : List Sl} (h : LiesR W g L) (a : Addr) (v : Value) (hne : g ≠ a.block) : LiesR (W.setCell a v) g L := (heap_setCell_other W a g v hne).trans h
theorem LiesR.setg {W : World} {g : Nat} {L : List Sl} (h : LiesR W g L) (hL : L.length = 128) (k : Nat) (hk : k < 128) (v : Int) : LiesR (W.setCell ⟨g, k, none⟩ (.int .i64 v)) g (L.set k (sX L k, v, sU L k)) := by
  unfold LiesR; rw [← rcs_setg L hL k hk]; exact heap_setCell_same _ _ _ _ _ _ h
theorem LiesR.setx {W : World} {g : Nat} {L : List Sl} (h : LiesR W g L) (hL : L.length = 128) (k : Nat) (hk : k < 128) (v : Int) : LiesR (W.setCell ⟨g, 128 + k, none⟩ (.int .i64 v)) g (L.set k (v, sG L k, sU L k)) := by
  unfold LiesR; rw [← rcs_setx L hL k hk]; exact heap_setCell_same _ _ _ _ _ _ h
theorem LiesR.setu {W : World} {g : Nat} {L : List Sl} (h : LiesR W g L) (hL : L.length = 128) (k : Nat) (hk : k < 128) (v : Bool) : LiesR (W.setCell ⟨g, 256 + k, none⟩ (.bool v)) g (L.set k (sX L k, sG L k, v)) := by
  unfold LiesR; rw [← rcs_setu L hL k hk]; exact heap_setCell_same _ _ _ _ _ _ h
theorem LiesR.row {W : World} {g n : Nat} {L : List Sl} (h : LiesR W g L) (hne : g ≠ n) (c : Array Value) : LiesR (W.setRow n c) g L := (setRow_other W n g c hne).trans h
theorem LiesR.same {W : World} {g : Nat} {R : List Sl} (h : LiesR W g R) (L : List Sl) : LiesR (W.setRow g (rcs L)) g L := setRow_heap W g _ _ 67 (0, 0) h
theorem liesR_new (W : World) (L : List Sl) (n : Nat) (h : n = W.heap.size) : LiesR (W.alloc (.cells (rcs L) 67)) n L := heap_at W _ n h
theorem liesR_past (W : World) (o : Obj) (L : List Sl) (n : Nat) (h : LiesR W n L) : LiesR (W.alloc o) n L := h.next ((Below.refl _ _).alloc (Nat.le_refl _) _)
/-- has the document's arena an id? -/
def hasR (L : List Sl) (k : Nat) : Bool := sU L (k % 128) && (sG L (k % 128) == ((k / 128 : Nat) : Int))
theorem hasR_any (L : List Sl) (k : Nat) (hL : L.length = 128) (hk : k < 65536) (w : World) : Calls Try.prog 30 #[.agg (rcs L), .int .i64 k] w fun e w' => e = .returned (.bool (hasR L k)) ∧ Below w.heap.size w w' := by
  have hm : k % 128 < 128 := Nat.mod_lt _ (by omega)
  have HM : (k : Int).tmod 128 = ((k % 128 : Nat) : Int) := by rw [Int.tmod_eq_emod_of_nonneg (by omega)]; omega
  have HD : (k : Int).tdiv 128 = ((k / 128 : Nat) : Int) := by rw [Int.tdiv_eq_ediv_of_nonneg (by omega)]; omega
  unfold hasR
  obtain ⟨j, hj⟩ : ∃ j, j = k % 128 := ⟨_, rfl⟩
  obtain ⟨q, hq⟩ : ∃ q, q = k / 128 := ⟨_, rfl⟩
  have hq2 : q < 512 := by omega
  rw [← hj] at hm HM ⊢
  rw [← hq] at HD ⊢
  clear hj hq
  have g2 := rcs_u L hL j hm
  have g1 := rcs_g L hL j hm
  have k0 : (0 : Int) ≤ (j : Int) := by omega
  have k1 : (j : Int) < 128 := by omega
  clear hL
  cases hu : sU L j
  · rw [hu] at g2
    go_enter Try.func30, Try.ntmps30
    go_wp2_with fail
    go_ret
    exact ⟨by simp, (Below.refl _ _).alloc (Nat.le_refl _) _⟩
  · rw [hu] at g2
    go_enter Try.func30, Try.ntmps30
    go_wp2_with fail
    go_ret
    exact ⟨by simp, (Below.refl _ _).alloc (Nat.le_refl _) _⟩
end Go.Proofs.Ytfdbibddhneklab.Arena
