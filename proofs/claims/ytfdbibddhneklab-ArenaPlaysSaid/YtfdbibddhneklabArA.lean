import Derived.Test.YtfdbibddhneklabProg
import Derived.Test.YtfdbibddhneklabKit
import Derived.Test.YtfdbibddhneklabInv
namespace Go.Proofs.Ytfdbibddhneklab.Arena
open Go.RowKit
set_option linter.unusedVariables false
set_option linter.unusedSimpArgs false
set_option maxRecDepth 100000
set_option maxHeartbeats 1000000
/-- a slot: its thing, its generation, whether it is used -/
abbrev Sl := Int × Int × Bool
def sX (L : List Sl) (k : Nat) : Int := (L.getD k (0, 0, false)).1
def sG (L : List Sl) (k : Nat) : Int := (L.getD k (0, 0, false)).2.1
def sU (L : List Sl) (k : Nat) : Bool := (L.getD k (0, 0, false)).2.2
def scs (L : List Sl) : List Value := L.flatMap fun s => [.int .i64 s.1, .int .u16 s.2.1, .bool s.2.2]
def acs (L : List Sl) : Array Value := (scs L).toArray
theorem scs_len (L : List Sl) : (scs L).length = 3 * L.length := by
  induction L with
  | nil => rfl
  | cons s L ih => simp only [scs, List.flatMap_cons, List.length_append, List.length_cons, List.length_nil] at ih ⊢; omega
theorem acs_size (L : List Sl) : (acs L).size = 3 * L.length := by simp [acs, scs_len]
theorem acs_one (L : List Sl) : (acs L).all (·.oneCell') = true := by
  rw [Array.all_eq_true_iff_forall_mem]
  intro v hv
  simp only [acs, List.mem_toArray, scs, List.mem_flatMap] at hv
  obtain ⟨s, _, hv⟩ := hv
  simp only [List.mem_cons, List.not_mem_nil, or_false] at hv
  rcases hv with rfl | rfl | rfl <;> rfl
theorem scs_cons (s : Sl) (L : List Sl) : scs (s :: L) = .int .i64 s.1 :: .int .u16 s.2.1 :: .bool s.2.2 :: scs L := rfl
theorem scs_get (L : List Sl) : ∀ (k j : Nat), j < 3 → k < L.length → (scs L)[k * 3 + j]? = [Value.int .i64 (L.getD k (0, 0, false)).1, .int .u16 (L.getD k (0, 0, false)).2.1, .bool (L.getD k (0, 0, false)).2.2][j]? := by
  induction L with
  | nil => intro k j _ hk; simp at hk
  | cons s L ih =>
    intro k j hj hk
    rw [scs_cons]
    cases k with
    | zero =>
      rw [Nat.zero_mul, Nat.zero_add]
      rcases j with _ | _ | _ | j
      · rfl
      · rfl
      · rfl
      · omega
    | succ k =>
      rw [show (k + 1) * 3 + j = (k * 3 + j) + 1 + 1 + 1 by omega]
      simp only [List.getElem?_cons_succ]
      exact ih k j hj (by simpa using hk)
theorem scs_set (L : List Sl) : ∀ (k : Nat) (x g : Int) (u : Bool), k < L.length → (((scs L).set (k * 3) (.int .i64 x)).set (k * 3 + 1) (.int .u16 g)).set (k * 3 + 2) (.bool u) = scs (L.set k (x, g, u)) := by
  induction L with
  | nil => intro k _ _ _ hk; simp at hk
  | cons s L ih =>
    intro k x g u hk
    cases k with
    | zero => rfl
    | succ k =>
      rw [List.set_cons_succ, scs_cons, scs_cons, ← ih k x g u (by simpa using hk)]
      rw [show (k + 1) * 3 = k * 3 + 1 + 1 + 1 by omega, show k * 3 + 1 + 1 + 1 + 1 = (k * 3 + 1) + 1 + 1 + 1 by omega, show k * 3 + 1 + 1 + 1 + 2 = (k * 3 + 2) + 1 + 1 + 1 by omega]
      simp only [List.set_cons_succ]
theorem acs_get0 (L : List Sl) (k : Nat) (h : k < L.length) : (acs L)[k * 3]? = some (.int .i64 (sX L k)) := by
  have := scs_get L k 0 (by omega) h; simpa [acs, sX, sG, sU] using this
theorem acs_get1 (L : List Sl) (k : Nat) (h : k < L.length) : (acs L)[k * 3 + 1]? = some (.int .u16 (sG L k)) := by
  have := scs_get L k 1 (by omega) h; simpa [acs, sX, sG, sU] using this
theorem acs_get2 (L : List Sl) (k : Nat) (h : k < L.length) : (acs L)[k * 3 + 2]? = some (.bool (sU L k)) := by
  have := scs_get L k 2 (by omega) h; simpa [acs, sX, sG, sU] using this
theorem acs_set (L : List Sl) (k : Nat) (x g : Int) (u : Bool) (h : k < L.length) : (((acs L).setIfInBounds (k * 3) (.int .i64 x)).setIfInBounds (k * 3 + 1) (.int .u16 g)).setIfInBounds (k * 3 + 2) (.bool u) = acs (L.set k (x, g, u)) := by
  simp only [acs, List.setIfInBounds_toArray]
  rw [scs_set L k x g u h]

theorem info29 (L : List Sl) (hL : L.length = 128) : ((Try.prog.info? 29).map (·.size)) = some (acs L).size := by rw [acs_size, hL]; kernel_rfl
/-- the id of a slot -/
def idOf (L : List Sl) (k : Nat) : Int := ((k : Int) + 128 * sG L k) % 65536
theorem id_any (L : List Sl) (k : Nat) (hL : L.length = 128) (hk : k < 128) (w : World) : Calls Try.prog 42 #[.agg (acs L), .int .i64 k] w fun e w' => e = .returned (.int .u16 (idOf L k)) ∧ Below w.heap.size w w' := by
  have g1 := acs_get1 L k (by omega)
  have k0 : (0 : Int) ≤ (k : Int) := by omega
  have k1 : (k : Int) < 128 := by omega
  have HL := Lib.hid hL
  have HR : Hid (IntKind.u16.wrap (↑k + IntKind.u16.wrap (128 * sG L k)) = idOf L k) := Lib.hid (by
    unfold idOf
    simp only [IntKind.wrap, IntKind.bits, IntKind.signed]
    simp)
  clear hL
  go_enter Try.func42, Try.ntmps42
  go_wp2_with fail
  rw [HR.out]
  go_ret
  exact ⟨rfl, (Below.refl _ _).alloc (Nat.le_refl _) _⟩
/-- is an id's thing there? -/
def has (L : List Sl) (k : Nat) : Bool := sU L (k % 128) && (idOf L (k % 128) == (k : Int))
theorem find_any (L : List Sl) (k : Nat) (hL : L.length = 128) (hk : k < 65536) (w : World) : Calls Try.prog 41 #[.agg (acs L), .int .u16 k] w fun e w' => e = .returned (.tuple #[.int .i64 ((k % 128 : Nat) : Int), .bool (has L k)]) ∧ Below w.heap.size w w' := by
  have hm : k % 128 < 128 := Nat.mod_lt _ (by omega)
  have HM : (k : Int).tmod 128 = ((k % 128 : Nat) : Int) := by rw [Int.tmod_eq_emod_of_nonneg (by omega)]; omega
  obtain ⟨j, hj⟩ : ∃ j, j = k % 128 := ⟨_, rfl⟩
  unfold has
  rw [← hj] at hm HM ⊢
  clear hj
  have g2 := acs_get2 L j (by omega)
  have k0 : (0 : Int) ≤ (j : Int) := by omega
  have k1 : (j : Int) < 128 := by omega
  have HI := Lib.hid (info29 L hL)
  have HC := Lib.hid (fun W => id_any L j hL hm W)
  clear hL
  cases hu : sU L j
  · rw [hu] at g2
    go_enter Try.func41, Try.ntmps41
    go_wp2_with fail
    go_ret2
    exact ⟨by simp, (Below.refl _ _).alloc (Nat.le_refl _) _⟩
  · rw [hu] at g2
    go_enter Try.func41, Try.ntmps41
    go_wp2_with fail
    refine wp_load_row 29 (.tmp 2) rfl _ rfl _ _ _ _ (heap_at _ _ _ (by simp)) Try.underlying29 rfl HI.out ?_
    go_wp2_with fail
    refine (HC.out _).mono ?_; rintro e w1 ⟨rfl, b⟩
    go_wp2_with fail
    go_ret2
    exact ⟨by simp, bnext ((Below.refl _ _).alloc (Nat.le_refl _) _) (Nat.le_refl _) b⟩
end Go.Proofs.Ytfdbibddhneklab.Arena
