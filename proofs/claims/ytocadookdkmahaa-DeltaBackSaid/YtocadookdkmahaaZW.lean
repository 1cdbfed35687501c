import Derived.Test.YtocadookdkmahaaZ10
import Derived.Test.YtocadookdkmahaaZU
import Derived.Lib.SlBytesConst
namespace Go.Proofs.Ytocadookdkmahaa.PLz
open Go.RowKit Go.Proofs.YtocadookdkmahaaW.PrintWords Go.Proofs.YtocadookdkmahaaW.PrintLast Go.Proofs.YtocadookdkmahaaW.PrintMore
attribute [local go_sem] max2_int min2_int max_two min_two max_three min_three max_four min_four   -- for this text's walks alone
set_option linter.unusedVariables false
set_option linter.unusedSimpArgs false
def lz_Pack.f (l0 : List Int) : Option (List Int) := if l0.length ≤ 1000000 ∧ wire_bytes l0 = true then some (lz_pack l0) else none
theorem lz_bytes_all {l : List Int} (h : wire_bytes l = true) : ∀ x ∈ l, 0 ≤ x ∧ x < 256 := by
  unfold wire_bytes at h
  intro x hx
  simpa using List.all_eq_true.1 h x hx
theorem lz_Pack.calls (A0 : Option Addr) (c0 : Nat) (l0 : List Int) (r : List Int) (w : World) (hr0 : Kd.C (Kd.int .u8) w A0 l0.length l0) (hc0 : l0.length ≤ c0) (h : lz_Pack.f l0 = some r) :
    Calls Try.prog 13 #[.slice A0 l0.length c0] w fun e w' => ∃ v0_ : Value, e = .returned (v0_) ∧ Kd.R (Kd.int .u8) 5 w' w.heap.size (fun _ => True) v0_ r ∧ Below w.heap.size w w' := by
  unfold lz_Pack.f at h
  by_cases hd : l0.length ≤ 1000000 ∧ wire_bytes l0 = true
  · rw [if_pos hd] at h
    exact lz_Pack_calls A0 c0 l0 w hr0 hc0 hd.1 (lz_bytes_all hd.2) r (Option.some.inj h)
  · rw [if_neg hd] at h; cases h
def lz_Unpack.f (l0 : List Int) (a1 : Int) : Option (List Int × Int) := if wire_bytes l0 = true ∧ l0.length ≤ 1000000 ∧ a1 ≤ 1000000 then some (lz_unF (max 0 a1) (l0.length + 1) l0 []) else none
theorem lz_Unpack.calls (A0 : Option Addr) (c0 : Nat) (l0 : List Int) (a1 : Int) (r1 : List Int) (r2 : Int) (w : World) (hr0 : Kd.C (Kd.int .u8) w A0 l0.length l0) (hc0 : l0.length ≤ c0) (h : lz_Unpack.f l0 a1 = some (r1, r2)) :
    Calls Try.prog 15 #[.slice A0 l0.length c0, .int .i64 a1] w fun e w' => ∃ v0_ : Value, e = .returned (.tuple #[v0_, .int .i64 r2]) ∧ Kd.R (Kd.int .u8) 5 w' w.heap.size (fun _ => True) v0_ r1 ∧ Below w.heap.size w w' := by
  unfold lz_Unpack.f at h
  by_cases hd : wire_bytes l0 = true ∧ l0.length ≤ 1000000 ∧ a1 ≤ 1000000
  · rw [if_pos hd] at h
    exact lz_Unpack_calls A0 c0 l0 a1 w hr0 hc0 hd.2.1 hd.2.2 (lz_bytes_all hd.1) (r1, r2) (Option.some.inj h)
  · rw [if_neg hd] at h; cases h
theorem wire_lit {W : World} {g : Nat} {e : Nat} {fr : Nat × Nat} {l : List Int} (h : W.heap[g]? = some (.cells (l.map (Value.int .u8)).toArray e fr)) (hl : l.length ≤ 140737488355328) : Kd.C (Kd.int .u8) W (some ⟨g, 0, none⟩) l.length l := by
  refine ⟨rfl, by omega, fun _ => ⟨_, rfl, fun j p hj => ⟨[.int .u8 p], rfl, rfl, fun i u hi => ?_⟩⟩⟩
  have hi0 : i = 0 := by have := (List.getElem?_eq_some_iff.1 hi).1; simp at this; omega
  subst hi0
  rw [show j * (Kd.int .u8).sz + 0 = j by show j * 1 + 0 = j; omega, add_plain, cell_of_row W g j _ e fr h]
  simp at hi
  subst hi
  simp [hj]
def rematchlaw04_wakes.f : Option Bool := some true
set_option maxHeartbeats 1000000 in
set_option maxRecDepth 20000 in
theorem rematchlaw04_wakes.calls0 (w : World) : Calls Try.prog 12 #[] w fun e w' => e = .returned (.bool true) ∧ Below w.heap.size w w' := by
  have hlit : (w.alloc (.cells #[.int .u8 97, .int .u8 97, .int .u8 97, .int .u8 97, .int .u8 97, .int .u8 97, .int .u8 97, .int .u8 97] 5 (8, 9))).heap[w.heap.size]? = some (.cells #[.int .u8 97, .int .u8 97, .int .u8 97, .int .u8 97, .int .u8 97, .int .u8 97, .int .u8 97, .int .u8 97] 5 (8, 9)) := heap_alloc_new w _
  have kc := Lib.run_convert_bytes_const (P := Try.prog) w 22 5 #[.int .u8 97, .int .u8 97, .int .u8 97, .int .u8 97, .int .u8 97, .int .u8 97, .int .u8 97, .int .u8 97] 8 8 Try.underlying22 (by kernel_rfl)
  have hCa := Lib.hid (wire_lit (l := [97, 97, 97, 97, 97, 97, 97, 97]) hlit (by decide))
  have H0 : Below w.heap.size w (w.alloc (.cells #[.int .u8 97, .int .u8 97, .int .u8 97, .int .u8 97, .int .u8 97, .int .u8 97, .int .u8 97, .int .u8 97] 5 (8, 9))) := below_alloc (Below.refl _ _) _
  clear hlit
  have f1 : lz_Pack.f [97, 97, 97, 97, 97, 97, 97, 97] = some [0, 97, 9, 0] := by decide +kernel
  have f2 : lz_Unpack.f [0, 97, 9, 0] 8 = some ([97, 97, 97, 97, 97, 97, 97, 97], 0) := by decide +kernel
  have f3 : lz_Unpack.f [0, 97, 9, 0] 7 = some ([], 6) := by decide +kernel
  have f1 := Lib.hid f1; have f2 := Lib.hid f2; have f3 := Lib.hid f3
  go_enter Try.func12, Try.ntmps12
  go_wp2_with fail
  refine (lz_Pack.calls (some ⟨w.heap.size, 0, none⟩) 8 [97, 97, 97, 97, 97, 97, 97, 97] _ _ hCa.out (by decide) f1.out).mono ?_; rintro e w1 ⟨v1, rfl, R1, b1⟩
  obtain ⟨A1, c1, rfl, q1, C1⟩ := wire_form R1
  have H1 := below_then H0 H0.size b1
  have C1 := Lib.hid C1
  clear R1 b1 H0 hCa kc
  go_wp2_with fail
  refine (lz_Unpack.calls A1 c1 [0, 97, 9, 0] 8 _ _ _ C1.out q1 f2.out).mono ?_; rintro e w2 ⟨v2, rfl, R2, b2⟩
  obtain ⟨A2, c2, rfl, q2, C2⟩ := wire_form R2
  have C1 := Lib.hid (Kd.C_below C1.out b2)
  have H2 := below_then H1 H1.size b2
  have C2 := Lib.hid C2
  clear R2 b2 H1
  go_wp2_with fail
  refine (lz_Unpack.calls A1 c1 [0, 97, 9, 0] 7 _ _ _ C1.out q1 f3.out).mono ?_; rintro e w3 ⟨v3, rfl, R3, b3⟩
  obtain ⟨A3, c3, rfl, q3, C3⟩ := wire_form R3
  have C1 := Lib.hid (Kd.C_below C1.out b3)
  have C2 := Lib.hid (Kd.C_below C2.out b3)
  have H3 := below_then H2 H2.size b3
  clear R3 b3 H2 C3
  have s1 := Kd.C_string (P := Try.prog) (src := 22) (dst := 9) (n := 4) (c := c1) Try.underlying22 (by kernel_rfl) Try.underlying9 C1.out
  have s2 := Kd.C_string (P := Try.prog) (src := 22) (dst := 9) (n := 8) (c := c2) Try.underlying22 (by kernel_rfl) Try.underlying9 C2.out
  rw [show strOfNums [0, 97, 9, 0] = ⟨#[0, 97, 9, 0]⟩ by decide +kernel] at s1
  rw [show strOfNums [97, 97, 97, 97, 97, 97, 97, 97] = ⟨#[97, 97, 97, 97, 97, 97, 97, 97]⟩ by decide +kernel] at s2
  clear C1 C2
  go_wp2_with fail
  go_ret
  exact ⟨rfl, H3⟩
theorem rematchlaw04_wakes.calls (r : Bool) (w : World) (h : rematchlaw04_wakes.f = some r) : Calls Try.prog 12 #[] w fun e w' => e = .returned (.bool r) ∧ Below w.heap.size w w' := by
  obtain rfl := Option.some.inj h
  exact rematchlaw04_wakes.calls0 w
end Go.Proofs.Ytocadookdkmahaa.PLz
