import Derived.Test.YtigcgdhihaibbaaDoorZ2
namespace Go.Proofs.YtigcgdhihaibbaaDoor.PLz
open Go.RowKit Go.Proofs.YtigcgdhihaibbaaDoorW.PrintWords Go.Proofs.YtigcgdhihaibbaaDoorW.PrintLast Go.Proofs.YtigcgdhihaibbaaDoorW.PrintMore
attribute [local go_sem] max2_int min2_int max_two min_two max_three min_three max_four min_four   -- for this text's walks alone
set_option linter.unusedVariables false
set_option linter.unusedSimpArgs false
theorem addr_next (ad : Addr) (i j : Nat) : ad.add (i + (j + 1)) = ⟨(ad.add i).block, (ad.add i).off + (j + 1), none⟩ := by
  rw [show ad.add (i + (j + 1)) = ⟨ad.block, ad.off + (i + (j + 1)), none⟩ from if_neg (by omega)]
  by_cases h : i = 0
  · subst h
    rw [show ad.add 0 = ad from if_pos rfl, Nat.zero_add]
  · rw [show ad.add i = ⟨ad.block, ad.off + i, none⟩ from if_neg h]
    simp only [Nat.add_assoc]
theorem lz_arrayAt {P : Program} {w : World} (arr e : TypeId) (n : Nat) (a : Option Addr) (len cap : Nat) (h : P.underlying arr = some (.array n e)) (hn : n ≤ len) : (Instr.arrayAt arr (.slice a len cap)).run P w = .ok (.pointer a) w := by
  simp [Instr.arrayAt, run_underlying h, Result.andThen, show ¬ len < n by omega]
set_option maxHeartbeats 1000000 in
theorem lz_three_yes (W : World) (g gm : Nat) (A : Option Addr) (c : Nat) (b : List Int) (at_ i plain : Nat) (vo : Value) (hg : lz_Blk W g A b.length c at_ gm vo plain) (hC : Kd.C (Kd.int .u8) W A b.length b) (hc : b.length ≤ c) (hi : i + 3 ≤ b.length) (hl : b.length ≤ 1000000) :
    Calls Tryd.prog 47 #[.pointer (some ⟨g, 0, none⟩), .int .i64 i] W fun e w' => e = .returned (.tuple #[lz_kv (lz_key b i), .bool true]) ∧ Below W.heap.size W w' := by
  have hc0 : W.cell? ⟨g, 0, none⟩ = some (.slice A b.length c) := blk_cell hg 0
  obtain ⟨ad, rfl, h0⟩ := lz_get_cell hC i (by omega)
  obtain ⟨ad', e, h1⟩ := lz_get_cell hC (i + 1) (by omega)
  obtain rfl := Option.some.inj e
  obtain ⟨ad', e, h2⟩ := lz_get_cell hC (i + 2) (by omega)
  obtain rfl := Option.some.inj e
  obtain ⟨x, hx⟩ : ∃ x, b.getD i 0 = x := ⟨_, rfl⟩
  obtain ⟨y, hy⟩ : ∃ y, b.getD (i + 1) 0 = y := ⟨_, rfl⟩
  obtain ⟨z, hz⟩ : ∃ z, b.getD (i + 2) 0 = z := ⟨_, rfl⟩
  have hk : lz_kv (lz_key b i) = .agg #[.int .u8 x, .int .u8 y, .int .u8 z] := by unfold lz_kv lz_key; rw [hx, hy, hz]
  rw [hx] at h0; rw [hy] at h1; rw [hz] at h2
  rw [hk]
  have HG := Lib.hid hg
  clear hC hx hy hz e hk hg
  have hb := below_alloc (Below.refl W.heap.size W) (.cells #[.int .u8 0, .int .u8 0, .int .u8 0] 86)
  have hc0 := pw_cell_below hb hc0
  have h0 := pw_cell_below hb h0
  have h1 := pw_cell_below hb h1
  have h2 := pw_cell_below hb h2
  have HB := Lib.hid hb
  clear hb
  have hne : ¬ c = i := by omega
  have h1' : ¬ ((b.length : Int) < i + 3) := by omega
  have hrun : ∀ w : World, (Instr.arrayAt 86 (.slice (some (ad.add i)) (b.length - i) (c - i))).run Tryd.prog w = .ok (.pointer (some (ad.add i))) w := fun w => lz_arrayAt _ _ _ _ _ _ lz_under77 (by omega)
  obtain ⟨q, hq⟩ : ∃ q, ad.add i = q := ⟨_, rfl⟩
  rw [show ad.add (i + 1) = ⟨q.block, q.off + 1, none⟩ from by rw [← hq]; exact addr_next ad i 0] at h1
  rw [show ad.add (i + 2) = ⟨q.block, q.off + 2, none⟩ from by rw [← hq]; exact addr_next ad i 1] at h2
  rw [hq] at h0 hrun
  have hq := Lib.hid hq
  have hcut : ad.add i = q := hq.out
  go_enter Tryd.func47, Tryd.ntmps47
  go_wp2_with fail
  exact bodyPost_ret (v := .tuple #[.agg #[.int .u8 x, .int .u8 y, .int .u8 z], .bool true]) (by simp [results, Tryd.results48, go_sem]) rfl ⟨rfl, below_alloc (Below.refl _ _) _⟩
set_option maxHeartbeats 1000000 in
theorem lz_three_no (W : World) (g gm : Nat) (A : Option Addr) (c : Nat) (b : List Int) (at_ i plain : Nat) (vo : Value) (hg : lz_Blk W g A b.length c at_ gm vo plain) (hi : ¬ i + 3 ≤ b.length) (hi2 : i ≤ 2000000) (hl : b.length ≤ 1000000) :
    Calls Tryd.prog 47 #[.pointer (some ⟨g, 0, none⟩), .int .i64 i] W fun e w' => e = .returned (.tuple #[.agg #[.int .u8 0, .int .u8 0, .int .u8 0], .bool false]) ∧ Below W.heap.size W w' := by
  have hc0 : W.cell? ⟨g, 0, none⟩ = some (.slice A b.length c) := blk_cell hg 0
  have hb := below_alloc (Below.refl W.heap.size W) (.cells #[.int .u8 0, .int .u8 0, .int .u8 0] 86)
  have hc0 := pw_cell_below hb hc0
  have HB := Lib.hid hb
  clear hb hg
  have h1' : ((b.length : Int) < i + 3) := by omega
  go_enter Tryd.func47, Tryd.ntmps47
  go_wp2_with fail
  exact bodyPost_ret (v := .tuple #[.agg #[.int .u8 0, .int .u8 0, .int .u8 0], .bool false]) (by simp [results, Tryd.results48, go_sem]) rfl ⟨rfl, below_alloc (Below.refl _ _) _⟩
end Go.Proofs.YtigcgdhihaibbaaDoor.PLz
