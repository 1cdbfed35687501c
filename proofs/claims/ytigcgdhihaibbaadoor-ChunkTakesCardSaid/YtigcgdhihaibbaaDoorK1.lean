/- Chunk: PutFixed, cuts, the checksum over a row. No condition. -/
import Derived.Test.YtigcgdhihaibbaaDoorZR
import Derived.Test.YtigcgdhihaibbaaDoorZQ
import Derived.Test.YtigcgdhihaibbaaDoorC2
import Derived.Test.YtigcgdhihaibbaaDoorC3
namespace Go.Proofs.YtigcgdhihaibbaaDoor.PLz
open Go.RowKit Go.Proofs.YtigcgdhihaibbaaDoorW.PrintWords Go.Proofs.YtigcgdhihaibbaaDoorW.PrintLast Go.Proofs.YtigcgdhihaibbaaDoorW.PrintMore
attribute [local go_sem] max2_int min2_int max_two min_two max_three min_three max_four min_four   -- for this text's walks alone
set_option linter.unusedVariables false
set_option linter.unusedSimpArgs false
set_option maxHeartbeats 4000000
set_option maxRecDepth 20000
/-! ### wire_PutFixed: function 18 -/
def wire_PutFixed.f (l0 : List Int) (a1 : Int) : Option (List Int) := if 0 ≤ a1 ∧ a1 < 4294967296 ∧ l0.length + 20 ≤ 140737488355328 then some (l0 ++ [a1 / 16777216, a1 / 65536 % 256, a1 / 256 % 256, a1 % 256]) else none
set_option maxHeartbeats 1000000 in
theorem wire_PutFixed.calls (A0 : Option Addr) (c0 : Nat) (l0 : List Int) (a1 : Int) (r : List Int) (w : World) (hr0 : Kd.C (Kd.int .u8) w A0 l0.length l0) (hc0 : l0.length ≤ c0) (h : wire_PutFixed.f l0 a1 = some r) :
    Calls Tryd.prog 18 #[.slice A0 l0.length c0, .int .u32 a1] w fun e w' => ∃ v0_ : Value, e = .returned (v0_) ∧ Kd.R (Kd.int .u8) 5 w' w.heap.size (fun _ => True) v0_ r ∧ Below w.heap.size w w' := by
  unfold wire_PutFixed.f at h
  by_cases hd : 0 ≤ a1 ∧ a1 < 4294967296 ∧ l0.length + 20 ≤ 140737488355328
  · rw [if_pos hd] at h
    obtain rfl := Option.some.inj h
    obtain ⟨h1, h2, h3⟩ := hd
    have HR := Lib.hid hr0
    obtain ⟨i0, hi, hz0, hz1, hz2⟩ := info_parts info5
    have hno := wire_none A0 l0 w HR.out
    have hcl : ∀ b, A0 = some b → ∀ j u, (l0.map (Value.int .u8))[j]? = some u → (w.alloc (.cells #[.int .u8 (a1 / 16777216), .int .u8 (a1 / 65536 % 256), .int .u8 (a1 / 256 % 256), .int .u8 (a1 % 256)] 5)).cell? (b.add j) = some u := fun b hb j u hj => pw_cell_below ((Below.refl _ _).alloc (Nat.le_refl _) _) (wire_read A0 l0 w HR.out b hb j u hj)
    have hb1 : l0.length + 4 ≤ maxLen := by unfold maxLen; omega
    have hb2 : (l0.length + 4) * 1 ≤ 140737488355328 := by omega
    have hnew : ∀ j u, [Value.int .u8 (a1 / 16777216), .int .u8 (a1 / 65536 % 256), .int .u8 (a1 / 256 % 256), .int .u8 (a1 % 256)][j]? = some u → (w.alloc (.cells #[.int .u8 (a1 / 16777216), .int .u8 (a1 / 65536 % 256), .int .u8 (a1 / 256 % 256), .int .u8 (a1 % 256)] 5)).cell? ((⟨w.heap.size, 0, none⟩ : Addr).add j) = some u := by
      intro j u hj
      have hlt : j < 4 := by have := (List.getElem?_eq_some_iff.1 hj).1; simpa using this
      rw [add_plain]
      rw [cell_of_row (w.alloc _) w.heap.size j _ 5 (0, 0) (heap_alloc_new w _)]
      rw [← hj]
      simp
    clear h hr0
    go_enter Tryd.func18, Tryd.ntmps18
    go_wp2_with fail
    refine (wire_clip A0 l0.length c0 _ hc0).mono ?_; rintro e w1 ⟨rfl, rfl⟩
    go_wp2_with (at_builtin; refine wpList_append_grows _ rfl (.tmp 6) (.tmp 18) 22 rfl 5 i0 (.int .u8 0) 1 1 Tryd.underlying22 hi hz0 hz1 hz2 rfl (by decide) A0 l0.length l0.length (l0.map (Value.int .u8)) rfl hno (by simp) hcl ⟨w.heap.size, 0, none⟩ 4 4 [.int .u8 (a1 / 16777216), .int .u8 (a1 / 65536 % 256), .int .u8 (a1 / 256 % 256), .int .u8 (a1 % 256)] rfl rfl hnew (by simp [Value.oneCell']) (by omega) hb1 hb2 ?_; intro v9 w9 ho hg)
    have hw9 : Below w.heap.size w w9 := ((Below.refl w.heap.size w).alloc (Nat.le_refl _) _).grown hg (by simp) (fun k hk => by cases hk)
    have ho2 := wire_R_of_own (xs := l0 ++ [a1 / 16777216, a1 / 65536 % 256, a1 / 256 % 256, a1 % 256]) (by simp) (wire_ownsRow_base (b' := w.heap.size) (by simp) ho)
    clear ho hg
    go_wp2_with fail
    go_ret
    exact ⟨_, rfl, ho2, hw9⟩
  · rw [if_neg hd] at h
    exact absurd h (by simp)



theorem ck_cut (A : Option Addr) (c : Nat) (l : List Int) (m : Nat) (hm : m ≤ l.length) (hc : l.length ≤ c) :
    ∃ A' : Option Addr, (∀ W : World, (Instr.slice 22 (.slice A l.length c) (some (.int .i64 (m : Int))) none none).run Tryd.prog W = .ok (.slice A' (l.drop m).length (c - m)) W) ∧ (∀ W : World, Kd.C (Kd.int .u8) W A l.length l → Kd.C (Kd.int .u8) W A' (l.drop m).length (l.drop m)) ∧ (l.drop m).length ≤ c - m := by
  obtain ⟨i0, hi, hzz⟩ := Option.map_eq_some_iff.1 info5
  simp only [Prod.mk.injEq] at hzz
  obtain ⟨hz0, hz1, hz2⟩ := hzz
  refine ⟨if c = m then A else A.map (·.add (m * 1)), fun W => ?_, fun W h => Kd.C_drop h hm hc, by rw [List.length_drop]; omega⟩
  have hel : Tryd.prog.elem 22 = 5 := by simp [Program.elem, Tryd.underlying22]
  have hu : Tryd.prog.underlying 22 = some (.slice (Tryd.prog.elem 22)) := by rw [hel]; exact Tryd.underlying22
  rw [run_slice_l W 22 A l.length c hu .i64 (m : Int) (Int.natCast_nonneg _) (by omega), hel]
  simp [sizeOf, typeInfo, hi, hz1, sliced, Result.andThen]
theorem ck_mid (A : Option Addr) (c : Nat) (l : List Int) (m n : Nat) (hm : m ≤ n) (hn : n ≤ l.length) (hc : l.length ≤ c) :
    ∃ A' : Option Addr, (∀ W : World, (Instr.slice 22 (.slice A l.length c) (some (.int .i64 (m : Int))) (some (.int .i64 (n : Int))) none).run Tryd.prog W = .ok (.slice A' ((l.drop m).take (n - m)).length (c - m)) W) ∧ (∀ W : World, Kd.C (Kd.int .u8) W A l.length l → Kd.C (Kd.int .u8) W A' ((l.drop m).take (n - m)).length ((l.drop m).take (n - m))) ∧ ((l.drop m).take (n - m)).length ≤ c - m := by
  obtain ⟨i0, hi, hzz⟩ := Option.map_eq_some_iff.1 info5
  simp only [Prod.mk.injEq] at hzz
  obtain ⟨hz0, hz1, hz2⟩ := hzz
  have hlen : ((l.drop m).take (n - m)).length = n - m := by rw [List.length_take, List.length_drop]; omega
  refine ⟨if c = m then A else A.map (·.add (m * 1)), fun W => ?_, fun W h => ?_, by omega⟩
  · have hel : Tryd.prog.elem 22 = 5 := by simp [Program.elem, Tryd.underlying22]
    have hu : Tryd.prog.underlying 22 = some (.slice (Tryd.prog.elem 22)) := by rw [hel]; exact Tryd.underlying22
    rw [run_slice_lh W 22 A l.length c hu .i64 .i64 (m : Int) (n : Int) (Int.natCast_nonneg _) (by omega) (by omega), hel, hlen]
    simp [sizeOf, typeInfo, hi, hz1, sliced, Result.andThen]
  · have h1 := Kd.C_drop h (show m ≤ l.length by omega) hc
    have h2 := Kd.C_take h1 (m := n - m) (by rw [List.length_drop]; omega)
    exact h2
/-- the checksum -/
def ck_crc (l : List Int) : Int := ((moreB 0#32 l).toNat : Int)
theorem ck_crc_range (l : List Int) : 0 ≤ ck_crc l ∧ ck_crc l < 4294967296 := by
  have := (moreB 0#32 l).isLt
  unfold ck_crc
  omega
theorem ck_rd {W : World} {A : Option Addr} {l : List Int} (h : Kd.C (Kd.int .u8) W A l.length l) (hB : IsB l) (hl : l.length ≤ 1000000) : Rd W A l.length l := by
  refine ⟨rfl, by omega, fun x hx => by have := hB x hx; omega, fun hn => ?_⟩
  obtain ⟨ad, rfl, h0⟩ := lz_get_cell h 0 hn
  obtain ⟨b, o, spot⟩ := ad
  have hspot : spot = none := by simpa [Addr.add] using World.cell?_spot h0
  subst hspot
  refine ⟨b, o, rfl, fun j hj => ?_⟩
  obtain ⟨ad2, e2, hc⟩ := lz_get_cell h j hj
  obtain rfl := Option.some.inj e2
  rwa [Addr.add_lit] at hc
theorem ck_crc_calls (A : Option Addr) (c : Nat) (l : List Int) (W : World) (hC : Kd.C (Kd.int .u8) W A l.length l) (hB : IsB l) (hl : l.length ≤ 1000000) (hT : Tab W) :
    Calls Tryd.prog 16 #[.slice A l.length c] W fun e w' => e = .returned (.int .u32 (ck_crc l)) ∧ w' = W :=
  (sum_any A l.length c l W (ck_rd hC hB hl) hT).mono fun e w' ⟨h1, h2⟩ => ⟨h1, h2.symm⟩
end Go.Proofs.YtigcgdhihaibbaaDoor.PLz
