/- A reader's contracts: wire.Of, Int, Bytes, Err, Left. No condition. -/
import Derived.Test.YtigcgdhihaibbaaDoorZ0
namespace Go.Proofs.YtigcgdhihaibbaaDoor.PLz
open Go.RowKit Go.Proofs.YtigcgdhihaibbaaDoorW.PrintWords Go.Proofs.YtigcgdhihaibbaaDoorW.PrintLast Go.Proofs.YtigcgdhihaibbaaDoorW.PrintMore
attribute [local go_sem] max2_int min2_int max_two min_two max_three min_three max_four min_four   -- for this text's walks alone
set_option linter.unusedVariables false
set_option linter.unusedSimpArgs false
/-- A state of type 72 at block g of W; what its slices lead to came in by w0. -/
def IsS72 (w0 W : World) (g : Nat) (f0 : List Int) (f1 : Int) (f2 : Int) : Prop := ∃ A0 c0, W.heap[g]? = some (.cells #[.slice A0 f0.length c0, .int .i64 f1, .int .i64 f2] 95 (0, 0)) ∧ w0.heap.size ≤ g ∧ Kd.C (Kd.int .u8) w0 A0 f0.length f0 ∧ f0.length ≤ c0
theorem IsS72.grown {w0 W : World} {g : Nat} {f0 : List Int} {f1 : Int} {f2 : Int} {W1 : World} {row : Option Nat} (h : IsS72 w0 W g f0 f1 f2) (hw : W.grownBy W1 row) (hne : some g ≠ row) : IsS72 w0 W1 g f0 f1 f2 := by
  obtain ⟨A0, c0, hb, hg, hr0, hq0⟩ := h
  exact ⟨A0, c0, blk_grown hb hw hne, hg, hr0, hq0⟩
theorem IsS72.kept {w0 W : World} {g : Nat} {f0 : List Int} {f1 : Int} {f2 : Int} {W1 : World} {S : Nat → Prop} (h : IsS72 w0 W g f0 f1 f2) (hk : Kept W W1 S) (hne : ¬ S g) : IsS72 w0 W1 g f0 f1 f2 := by
  obtain ⟨A0, c0, hb, hg, hr0, hq0⟩ := h
  exact ⟨A0, c0, blk_kept hb hk hne, hg, hr0, hq0⟩
theorem IsS72.below {w0 W : World} {g : Nat} {f0 : List Int} {f1 : Int} {f2 : Int} {W1 : World} (h : IsS72 w0 W g f0 f1 f2) (hw : Below W.heap.size W W1) : IsS72 w0 W1 g f0 f1 f2 := h.grown (grown_of_below hw none) (by simp)
theorem IsS72.alloc {w0 W : World} {g : Nat} {f0 : List Int} {f1 : Int} {f2 : Int} (h : IsS72 w0 W g f0 f1 f2) (o : Obj) : IsS72 w0 (W.alloc o) g f0 f1 f2 := h.below (below_alloc (Below.refl _ _) o)
theorem IsS72.drewN {w0 W : World} {g : Nat} {f0 : List Int} {f1 : Int} {f2 : Int} (h : IsS72 w0 W g f0 f1 f2) (m : Nat) : IsS72 w0 (W.drewN m) g f0 f1 f2 := h
theorem IsS72.drew {w0 W : World} {g : Nat} {f0 : List Int} {f1 : Int} {f2 : Int} (h : IsS72 w0 W g f0 f1 f2) : IsS72 w0 W.drew g f0 f1 f2 := h
theorem IsS72.at_ {w0 W : World} {g : Nat} {f0 : List Int} {f1 : Int} {f2 : Int} {w' : World} {m : Nat} (hq : W.drewN m = w') (h : IsS72 w0 W g f0 f1 f2) : IsS72 w0 w' g f0 f1 f2 := by subst hq; exact IsS72.drewN h m
theorem IsS72.apart {w0 W : World} {g : Nat} {f0 : List Int} {f1 : Int} {f2 : Int} {α : Type} {d : Kd α} {e : Nat} {base : Nat} {ok : Nat → Prop} {v : Value} {xs : List α} (h : IsS72 w0 W g f0 f1 f2) (ho : d.R e W base ok v xs) (ht : ∀ q, q ∈ e :: d.E → q ≠ 95) : d.R e W base (fun k => ok k ∧ k ≠ g) v xs := by
  obtain ⟨A0, c0, hb, hg, hr0, hq0⟩ := h
  exact Kd.R_types ho hb ht
theorem IsS72.own_ne {w0 W : World} {g : Nat} {f0 : List Int} {f1 : Int} {f2 : Int} {α : Type} {d : Kd α} {e : Nat} {base : Nat} {ok : Nat → Prop} {v : Value} {xs : List α} (h : IsS72 w0 W g f0 f1 f2) (ho : d.R e W base ok v xs) (ht : e ≠ 95) : some g ≠ v.ownBlock := by
  obtain ⟨A0, c0, hb, hg, hr0, hq0⟩ := h
  exact Kd.R_ne ho hb ht
theorem IsS72.lt {w0 W : World} {g : Nat} {f0 : List Int} {f1 : Int} {f2 : Int} (h : IsS72 w0 W g f0 f1 f2) : g < W.heap.size := by
  obtain ⟨A0, c0, hb, hg, hr0, hq0⟩ := h
  exact blk_lt hb
theorem IsS72.ge {w0 W : World} {g : Nat} {f0 : List Int} {f1 : Int} {f2 : Int} (h : IsS72 w0 W g f0 f1 f2) : w0.heap.size ≤ g := by
  obtain ⟨A0, c0, hb, hg, hr0, hq0⟩ := h
  exact hg
theorem IsS72.far {w0 W : World} {g : Nat} {f0 : List Int} {f1 : Int} {f2 : Int} {p : Addr} (h : IsS72 w0 W g f0 f1 f2) (hne : g ≠ p.block) (u : Value) : IsS72 w0 (W.setCell p u) g f0 f1 f2 := by
  obtain ⟨A0, c0, hb, hg, hr0, hq0⟩ := h
  exact ⟨A0, c0, blk_far hb hne u, hg, hr0, hq0⟩
theorem cellS72_0 {W : World} {g : Nat} {A0 : Option Addr} {c0 : Nat} {f0 : List Int} {f1 : Int} {f2 : Int} (h : W.heap[g]? = some (.cells #[.slice A0 f0.length c0, .int .i64 f1, .int .i64 f2] 95 (0, 0))) : W.cell? ⟨g, 0, none⟩ = some (.slice A0 f0.length c0) := (blk_cell h 0).trans rfl
theorem cellS72_1 {W : World} {g : Nat} {A0 : Option Addr} {c0 : Nat} {f0 : List Int} {f1 : Int} {f2 : Int} (h : W.heap[g]? = some (.cells #[.slice A0 f0.length c0, .int .i64 f1, .int .i64 f2] 95 (0, 0))) : W.cell? ⟨g, 1, none⟩ = some (.int .i64 f1) := (blk_cell h 1).trans rfl
theorem IsS72.set_1 {w0 W : World} {g : Nat} {f0 : List Int} {f1 : Int} {f2 : Int} (h : IsS72 w0 W g f0 f1 f2) (x : Int) : IsS72 w0 (W.setCell ⟨g, 1, none⟩ (.int .i64 x)) g f0 x f2 := by
  obtain ⟨A0, c0, hb, hg, hr0, hq0⟩ := h
  exact ⟨A0, c0, by simpa using blk_set hb 1 (.int .i64 x), hg, hr0, hq0⟩
theorem cellS72_2 {W : World} {g : Nat} {A0 : Option Addr} {c0 : Nat} {f0 : List Int} {f1 : Int} {f2 : Int} (h : W.heap[g]? = some (.cells #[.slice A0 f0.length c0, .int .i64 f1, .int .i64 f2] 95 (0, 0))) : W.cell? ⟨g, 2, none⟩ = some (.int .i64 f2) := (blk_cell h 2).trans rfl
theorem IsS72.set_2 {w0 W : World} {g : Nat} {f0 : List Int} {f1 : Int} {f2 : Int} (h : IsS72 w0 W g f0 f1 f2) (x : Int) : IsS72 w0 (W.setCell ⟨g, 2, none⟩ (.int .i64 x)) g f0 f1 x := by
  obtain ⟨A0, c0, hb, hg, hr0, hq0⟩ := h
  exact ⟨A0, c0, by simpa using blk_set hb 2 (.int .i64 x), hg, hr0, hq0⟩
theorem IsS72.new (w0 W : World) (A0 : Option Addr) (c0 : Nat) (f0 : List Int) (f1 : Int) (f2 : Int) (hB : Below w0.heap.size w0 W) (hr0 : Kd.C (Kd.int .u8) w0 A0 f0.length f0) (hq0 : f0.length ≤ c0) : IsS72 w0 (W.alloc (.cells #[.slice A0 f0.length c0, .int .i64 f1, .int .i64 f2] 95)) W.heap.size f0 f1 f2 := ⟨A0, c0, by simpa using heap_alloc_new W _, hB.size, hr0, hq0⟩


/-! ### wire_Of: function 24 -/
def wire_Of.f (l0 : List Int) : Option (List Int × Int × Int) := some (l0, 0, 0)
set_option maxHeartbeats 8000000 in
set_option maxRecDepth 100000 in
theorem wire_Of.calls (A0 : Option Addr) (c0 : Nat) (l0 : List Int) (r1 : List Int) (r2 : Int) (r3 : Int) (w0 w : World) (hB : Below w0.heap.size w0 w) (hr0 : Kd.C (Kd.int .u8) w0 A0 l0.length l0) (hc0 : l0.length ≤ c0) (h : wire_Of.f l0 = some (r1, r2, r3)) :
    Calls Tryd.prog 35 #[.slice A0 l0.length c0] w fun e w' => ∃ g_ : Nat, e = .returned (.pointer (some ⟨g_, 0, none⟩)) ∧ IsS72 w0 w' g_ r1 r2 r3 ∧ Below w0.heap.size w0 w' ∧ Below w.heap.size w w' := by
  have hu72 := Tryd.underlying95
  have HR0 := Aside0.mk hr0
  have HC0 := Aside0.mk hc0
  clear hr0 hc0
  have HBW := Aside0.mk (Below.refl w.heap.size w)
  have HW0 := Aside0.mk hB.size
  have HB := Aside0.mk hB
  clear hB
  have H : (some (l0, 0, 0)) = some (r1, r2, r3) := h
  clear h
  simp only [Option.some.injEq, Prod.mk.injEq] at H
  obtain ⟨rfl, rfl, rfl⟩ := H
  go_enter Tryd.func35, Tryd.ntmps35
  go_wp2_with (first | ((with_reducible refine gate_dst (N := 5) rfl ?_); refine box_event ?hg (N := 5) ?hd (cs := #[.slice A0 l0.length c0, .int .i64 0, .int .i64 0]) (t := 95) ?hr ?_; (case hd => rfl); (case hg => rfl); (case hr => first | (go_simp; done) | (go_simp; rfl)); intro gb101 hg w2 hbox hb; have n0_ := Aside0.mk (below_step HBW.out hb); have n1_ := Aside0.mk (below_step (by repeat (first | (with_reducible first | exact HB.out | apply below_alloc | apply pw_below_drewN | apply below_drew1) | exact HB.out)) hb); have n2_ := Aside0.mk (hbox); have n3_ := Aside0.mk ((by rw [hg]; exact (below_size (by repeat (first | (with_reducible first | exact HBW.out | apply below_alloc | apply pw_below_drewN | apply below_drew1) | exact HBW.out))) : w.heap.size ≤ gb101)); have n4_ := Aside0.mk ((Nat.le_trans HW0.out (by rw [hg]; exact (below_size (by repeat (first | (with_reducible first | exact HBW.out | apply below_alloc | apply pw_below_drewN | apply below_drew1) | exact HBW.out))) : w.heap.size ≤ gb101) : w0.heap.size ≤ gb101)); clear HBW; clear HB; have HBW := n0_; have HB := n1_; have BK101 := n2_; have GW101 := n3_; have GE101 := n4_; clear n0_ n1_ n2_ n3_ n4_; clear hb hbox hg))
  go_ret
  exact ⟨_, rfl, (show IsS72 w0 _ gb101 l0 0 0 from ⟨_, _, by (with_reducible repeat (first | refine blk_drewN ?_ _ | refine blk_drew ?_ | refine blk_alloc ?_ _)); exact BK101.out, GE101.out, HR0.out, HC0.out⟩), by repeat (first | (with_reducible first | exact HB.out | apply below_alloc | apply pw_below_drewN | apply below_drew1 | refine below_set ?_ GE101.out) | exact HB.out), by repeat (first | (with_reducible first | exact HBW.out | apply below_alloc | apply pw_below_drewN | apply below_drew1 | refine below_set ?_ GW101.out) | exact HBW.out)⟩


/-- a varint of bytes from place i on, behind a number n: the number, how many bytes, the error -/
def wire_vr (l : List Int) : Nat → Nat → Int → Int × Int × Int
  | 0, _, _ => (0, 0, 4)
  | k + 1, i, n => if l.length ≤ i then (0, 0, 3) else if (i = 9 ∧ 1 < l.getD i 0) ∨ (0 < i ∧ l.getD i 0 = 0) then (0, 0, 4) else if l.getD i 0 < 128 then (n + l.getD i 0 * 128 ^ i, (i : Int) + 1, 0) else wire_vr l k (i + 1) (n + (l.getD i 0 - 128) * 128 ^ i)
theorem wire_vr_short (l : List Int) (k i : Nat) (n : Int) (h : l.length ≤ i) : wire_vr l (k + 1) i n = (0, 0, 3) := by rw [wire_vr, if_pos h]
theorem wire_vr_form (l : List Int) (k i : Nat) (n : Int) (h : i < l.length) (hf : (i = 9 ∧ 1 < l.getD i 0) ∨ (0 < i ∧ l.getD i 0 = 0)) : wire_vr l (k + 1) i n = (0, 0, 4) := by rw [wire_vr, if_neg (by omega), if_pos hf]
theorem wire_vr_last (l : List Int) (k i : Nat) (n : Int) (h : i < l.length) (hf : ¬ ((i = 9 ∧ 1 < l.getD i 0) ∨ (0 < i ∧ l.getD i 0 = 0))) (hx : l.getD i 0 < 128) : wire_vr l (k + 1) i n = (n + l.getD i 0 * 128 ^ i, (i : Int) + 1, 0) := by rw [wire_vr, if_neg (by omega), if_neg hf, if_pos hx]
theorem wire_vr_next (l : List Int) (k i : Nat) (n : Int) (h : i < l.length) (hf : ¬ ((i = 9 ∧ 1 < l.getD i 0) ∨ (0 < i ∧ l.getD i 0 = 0))) (hx : ¬ l.getD i 0 < 128) : wire_vr l (k + 1) i n = wire_vr l k (i + 1) (n + (l.getD i 0 - 128) * 128 ^ i) := by rw [wire_vr, if_neg (by omega), if_neg hf, if_neg hx]
def wire_bytes (l : List Int) : Bool := l.all fun x => decide (0 ≤ x ∧ x < 256)
def wire_varint.f (l0 : List Int) : Option (Int × Int × Int) := if wire_bytes l0 = true ∧ l0.length ≤ 140737488355328 then some (wire_vr l0 10 0 0) else none
theorem wire_or_nat (a c j : Nat) (ha : a < 128 ^ j) (hj : j ≤ 9) (h : c * 128 ^ j < 18446744073709551616) : bits .or .u64 (a : Int) ((c * 128 ^ j : Nat) : Int) = (a : Int) + (c : Int) * 128 ^ j := by
  have h9 : (128 : Nat) ^ j ≤ 128 ^ 9 := Nat.pow_le_pow_right (by decide) hj
  have h9 : (128 : Nat) ^ j ≤ 9223372036854775808 := h9
  rw [bits_or_u64_nat _ _ (by omega) h, Nat.or_comm]
  have e : (128 : Nat) ^ j = 2 ^ (7 * j) := by rw [Nat.pow_mul]
  rw [e] at ha ⊢
  rw [Nat.mul_comm c, ← Nat.two_pow_add_eq_or_of_lt ha c]
  have e2 : (128 : Int) ^ j = ((2 ^ (7 * j) : Nat) : Int) := by rw [← e]; exact (Int.natCast_pow 128 j).symm
  rw [e2]
  push_cast
  rw [Int.add_comm, Int.mul_comm]
theorem wire_or (m y : Int) (j : Nat) (hm : 0 ≤ m) (hm2 : m < 128 ^ j) (hy : 0 ≤ y) (hj : j ≤ 9) (h : y * 128 ^ j < 18446744073709551616) : bits .or .u64 m (y * 128 ^ j) = m + y * 128 ^ j := by
  obtain ⟨a, rfl⟩ := Int.eq_ofNat_of_zero_le hm
  obtain ⟨c, rfl⟩ := Int.eq_ofNat_of_zero_le hy
  have h1 : a < 128 ^ j := by exact_mod_cast hm2
  have ep : ((c * 128 ^ j : Nat) : Int) = (c : Int) * 128 ^ j := by rw [Int.natCast_mul, Int.natCast_pow]; rfl
  have h2 : c * 128 ^ j < 18446744073709551616 := by rw [← ep] at h; omega
  have := wire_or_nat a c j h1 hj h2
  rw [← this, ep]
theorem wire_or_wrap (m y : Int) (j : Nat) (hm : 0 ≤ m) (hm2 : m < 128 ^ j) (hy : 0 ≤ y) (hy2 : y < 128) (hj : j ≤ 8) : bits .or .u64 m (IntKind.u64.wrap (y * 2 ^ (7 * j))) = m + y * 128 ^ j := by
  have e : (2 : Int) ^ (7 * j) = 128 ^ j := by
    have : (2 : Nat) ^ (7 * j) = 128 ^ j := by rw [Nat.pow_mul]
    exact_mod_cast this
  have h8 : (128 : Nat) ^ j ≤ 128 ^ 8 := Nat.pow_le_pow_right (by decide) hj
  have h8 : (128 : Nat) ^ j ≤ 72057594037927936 := h8
  have ep : ((128 ^ j : Nat) : Int) = (128 : Int) ^ j := Int.natCast_pow 128 j
  have h8 : (128 : Int) ^ j ≤ 72057594037927936 := by omega
  have h0 : 0 ≤ (128 : Int) ^ j := by exact_mod_cast Nat.zero_le (128 ^ j)
  have hb : y * 128 ^ j ≤ 128 * 72057594037927936 := Int.mul_le_mul (by omega) h8 h0 (by decide)
  have h1 : 0 ≤ y * (128 : Int) ^ j := Int.mul_nonneg hy h0
  rw [e, IntKind.wrap_u64, Int.emod_eq_of_lt h1 (by omega)]
  exact wire_or m y j hm hm2 hy (by omega) (by omega)
theorem wire_ends {r1 r2 r3 a b c : Int} {w : World} (h : (r1, r2, r3) = (a, b, c)) : Ending.returned (.tuple #[.int .u64 a, .int .i64 b, .int .i64 c]) = .returned (.tuple #[.int .u64 r1, .int .i64 r2, .int .i64 r3]) ∧ w = w := by
  cases h; exact ⟨rfl, rfl⟩
set_option maxHeartbeats 1000000 in
theorem wire_varint.calls (A0 : Option Addr) (c0 : Nat) (l0 : List Int) (r1 r2 r3 : Int) (w : World) (hr0 : Kd.C (Kd.int .u8) w A0 l0.length l0) (hc0 : l0.length ≤ c0) (h : wire_varint.f l0 = some (r1, r2, r3)) :
    Calls Tryd.prog 53 #[.slice A0 l0.length c0] w fun e w' => e = .returned (.tuple #[.int .u64 r1, .int .i64 r2, .int .i64 r3]) ∧ w = w' := by
  unfold wire_varint.f at h
  have HD : wire_bytes l0 = true ∧ l0.length ≤ 140737488355328 := by
    by_cases hd : wire_bytes l0 = true ∧ l0.length ≤ 140737488355328
    · exact hd
    · rw [if_neg hd] at h; cases h
  rw [if_pos HD] at h
  have hU : ∀ x ∈ l0, 0 ≤ x ∧ x < 256 := by
    have := HD.1
    unfold wire_bytes at this
    intro x hx
    simpa using List.all_eq_true.1 this x hx
  have hl := HD.2
  clear HD
  have hV := Option.some.inj h
  clear h
  have HR := Lib.hid hr0
  have HU := Lib.hid hU
  have HV0 := Lib.hid hV
  clear hr0 hU hV
  go_enter Tryd.func53, Tryd.ntmps53
  go_wp2_with fail
  go_step3
  go_wp2_with fail
  go_step3
  go_wp2_with fail
  go_loop [2, 3, 4, 5, 6] (fun a b c n i => a = .int .u64 0 ∧ b = .int .i64 0 ∧ c = .int .i64 0 ∧ ∃ (j : Nat) (m : Int), j ≤ 9 ∧ j ≤ l0.length ∧ i = .int .i64 j ∧ n = .int .u64 m ∧ 0 ≤ m ∧ m < 128 ^ j ∧ Hid (wire_vr l0 (9 - j + 1) j m = (r1, r2, r3))) (fun _ _ _ _ i => 10 - (intOf i).toNat)
  case atStart => exact ⟨rfl, rfl, rfl, 0, 0, by omega, by omega, rfl, rfl, by omega, by simp, Lib.hid HV0.out⟩
  case round =>
    obtain ⟨rfl, rfl, rfl, j, m, hj, hjl, rfl, rfl, hm, hm2, HV⟩ := hrel
    have hm3 := Lib.hid hm2
    clear hm2
    have hp : (128 : Int) ^ j ≤ 9223372036854775808 := by
      have : (128 : Nat) ^ j ≤ 128 ^ 9 := Nat.pow_le_pow_right (by decide) hj
      have h2 : ((128 ^ j : Nat) : Int) ≤ ((128 ^ 9 : Nat) : Int) := by exact_mod_cast this
      simpa using h2
    have hp := Lib.hid hp
    rcases Nat.lt_or_ge j l0.length with hlen | hlen
    · obtain ⟨b, rfl⟩ : ∃ b, A0 = some b := by
        cases A0 with
        | some b => exact ⟨b, rfl⟩
        | none => have := (wire_none none l0 w HR.out rfl).1; omega
      have hcell := wire_read (some b) l0 w HR.out b rfl j (.int .u8 (l0.getD j 0)) (by simp [hlen])
      have hx := HU.out _ (List.getElem_mem hlen)
      have hg : l0.getD j 0 = l0[j] := by simp [hlen]
      rw [← hg] at hx
      obtain ⟨x, hgx⟩ : ∃ x, l0.getD j 0 = x := ⟨_, rfl⟩
      rw [hgx] at hx hcell
      have HX := Lib.hid hgx
      clear hg hgx
      have hne : ((j : Int) == (l0.length : Int)) = false := by simp; omega
      have hj0 := Lib.hid hj
      rcases (by omega : j = 9 ∨ j = 0 ∨ (0 < j ∧ j < 9)) with hj | hj | ⟨hja, hjb⟩
      · subst hj
        have hcell : w.cell? { block := b.block, off := b.off + 9 } = some (.int .u8 x) := hcell
        rcases (by omega : 1 < x ∨ x = 0 ∨ x = 1) with hxx | rfl | rfl
        · go_wp2_with fail
          go_ret3
          exact wire_ends (HV.out.symm.trans (wire_vr_form _ _ _ _ hlen (by rw [HX.out]; omega)))
        · go_wp2_with fail
          go_ret3
          exact wire_ends (HV.out.symm.trans (wire_vr_form _ _ _ _ hlen (by rw [HX.out]; omega)))
        · go_wp2_with fail
          go_ret3
          have e := HV.out.symm.trans (wire_vr_last _ _ _ _ hlen (by rw [HX.out]; omega) (by rw [HX.out]; omega))
          rw [HX.out, ← wire_or m 1 9 hm hm3.out (by decide) (by decide) (by decide)] at e
          exact wire_ends e
      · subst hj
        have hcell : w.cell? b = some (.int .u8 x) := hcell
        by_cases hxx : x < 128
        · go_wp2_with fail
          go_ret3
          have e := HV.out.symm.trans (wire_vr_last _ _ _ _ hlen (by rw [HX.out]; omega) (by rw [HX.out]; omega))
          have ex : x % 128 = x := by omega
          rw [HX.out, ← wire_or m x 0 hm hm3.out (by omega) (by decide) (by omega), Int.pow_zero, Int.mul_one] at e
          rw [ex]
          exact wire_ends e
        · go_wp2_with fail
          have e := HV.out.symm.trans (wire_vr_next _ _ _ _ hlen (by rw [HX.out]; omega) (by rw [HX.out]; omega))
          have hm4 := hm3.out
          have ex : x % 128 = x - 128 := by omega
          have eo := wire_or m (x % 128) 0 hm hm4 (by omega) (by decide) (by omega)
          rw [Int.pow_zero, Int.mul_one] at eo
          rw [HX.out, Int.pow_zero, Int.mul_one, ← ex, ← eo] at e
          simp at hm4
          refine ⟨⟨rfl, rfl, rfl, 1, _, by omega, by omega, rfl, rfl, by rw [eo]; omega, by rw [eo]; omega, Lib.hid e.symm⟩, by simp [intOf]⟩
      · have hn9 : ¬ (j : Int) = 9 := by omega
        have hn0 : (0 : Int) < j := by omega
        have hcell : w.cell? { block := b.block, off := b.off + j } = some (.int .u8 x) := by rw [show b.add j = ⟨b.block, b.off + j, none⟩ from if_neg (by omega)] at hcell; exact hcell
        rcases (by omega : x = 0 ∨ 128 ≤ x ∨ (x ≠ 0 ∧ x < 128)) with rfl | hxx | ⟨hx0, hxx⟩
        · go_wp2_with fail
          go_ret3
          exact wire_ends (HV.out.symm.trans (wire_vr_form _ _ _ _ hlen (by rw [HX.out]; omega)))
        · go_wp2_with fail
          have e := HV.out.symm.trans (wire_vr_next _ _ _ _ hlen (by rw [HX.out]; omega) (by rw [HX.out]; omega))
          have hm4 := hm3.out
          have ex : x % 128 = x - 128 := by omega
          have eo := wire_or_wrap m (x % 128) j hm hm4 (by omega) (by omega) (by omega)
          rw [HX.out, ← ex, ← eo, show 9 - j = 9 - (j + 1) + 1 by omega] at e
          refine ⟨⟨rfl, rfl, rfl, j + 1, _, by omega, by omega, by go_num, rfl, ?_, ?_, Lib.hid e.symm⟩, by simp [intOf]; omega⟩
          · rw [eo]
            exact Int.add_nonneg hm (Int.mul_nonneg (by omega) (by omega))
          · rw [eo, Int.pow_succ]
            have : (x % 128) * 128 ^ j ≤ 127 * (128 : Int) ^ j := Int.mul_le_mul_of_nonneg_right (by omega) (by omega)
            omega
        · go_wp2_with fail
          go_ret3
          have e := HV.out.symm.trans (wire_vr_last _ _ _ _ hlen (by rw [HX.out]; omega) (by rw [HX.out]; omega))
          have ex : x % 128 = x := by omega
          rw [HX.out, ← wire_or_wrap m x j hm hm3.out (by omega) (by omega) (by omega)] at e
          rw [ex]
          exact wire_ends e
    · obtain rfl : j = l0.length := by omega
      go_wp2_with fail
      go_ret3
      exact wire_ends (HV.out.symm.trans (wire_vr_short _ _ _ _ (Nat.le_refl _)))
set_option maxHeartbeats 1000000 in
theorem wire_rd_gone (g : Nat) (f0 : List Int) (f1 f2 : Int) (w0 w : World) (hI : IsS72 w0 w g f0 f1 f2) (k : FuncId) (caps : Array Value) (h : f2 ≠ 0) :
    Calls Tryd.prog 51 #[.pointer (some ⟨g, 0, none⟩), .func (.func k) #[] caps] w fun e w' => e = .returned (.tuple #[]) ∧ w' = w := by
  obtain ⟨A0, c0, hb, hg, hr0, hq0⟩ := hI
  have hc0 := cellS72_0 hb
  have hc1 := cellS72_1 hb
  have hc2 := cellS72_2 hb
  clear hb
  go_enter Tryd.func51, Tryd.ntmps51
  go_wp2_with fail
  refine bodyPost_ret (results_none rfl _ _ _) rfl ?_
  exact ⟨rfl, rfl⟩
set_option maxHeartbeats 1000000 in
theorem wire_rd (g : Nat) (f0 : List Int) (f1 : Int) (w0 w : World) (hI : IsS72 w0 w g f0 f1 0) (hB : Below w0.heap.size w0 w) (k : FuncId) (hk : ∀ args W, (callFunc k args).run Tryd.prog W = .ok (.enter k args) W) (caps : Array Value) (n e : Int) (Z : World → Prop)
    (hf : 0 ≤ f1 ∧ f1 ≤ f0.length) (hn : 0 ≤ n ∧ f1 + n ≤ 9223372036854775807)
    (hcl : ∀ (W : World) (A : Option Addr) (c : Nat), W = w.drew → Kd.C (Kd.int .u8) W A (f0.drop f1.toNat).length (f0.drop f1.toNat) → (f0.drop f1.toNat).length ≤ c → Calls Tryd.prog k (#[.slice A (f0.drop f1.toNat).length c] ++ caps) W fun e' w' => e' = .returned (.tuple #[.int .i64 n, .int .i64 e]) ∧ Z w')
    (hZ : ∀ w', Z w' → w'.heap[g]? = w.heap[g]?) :
    Calls Tryd.prog 51 #[.pointer (some ⟨g, 0, none⟩), .func (.func k) #[] caps] w fun e' w' => e' = .returned (.tuple #[]) ∧ ∃ w1, Z w1 ∧ w' = if e = 0 then w1.setCell ⟨g, 1, none⟩ (.int .i64 (f1 + n)) else w1.setCell ⟨g, 2, none⟩ (.int .i64 e) := by
  obtain ⟨A0, c0, hb, hg, hr0, hq0⟩ := hI
  have hc0 := cellS72_0 hb
  have hc1 := cellS72_1 hb
  have hc2 := cellS72_2 hb
  have hR := Kd.C_drop (m := f1.toNat) (c := c0) (Kd.C_below hr0 (by apply below_drew1; exact hB)) (by omega) hq0
  rw [show f1.toNat * (Kd.int .u8).sz = f1.toNat by show f1.toNat * 1 = _; omega] at hR
  have hcl := hcl w.drew _ (c0 - f1.toNat) rfl hR (by rw [List.length_drop]; omega)
  rw [List.length_drop] at hcl
  have hkeep : ∀ w', Z w' → w'.cell? ⟨g, 0, none⟩ = some (.slice A0 f0.length c0) ∧ w'.cell? ⟨g, 1, none⟩ = some (.int .i64 f1) := fun w' hz => ⟨cellS72_0 ((hZ w' hz).trans hb), cellS72_1 ((hZ w' hz).trans hb)⟩
  have hfro : ∀ w', Z w' → w'.frozen? ⟨g, 1, none⟩ = false ∧ w'.frozen? ⟨g, 2, none⟩ = false := fun w' hz => ⟨blk_frozen ((hZ w' hz).trans hb) 1, blk_frozen ((hZ w' hz).trans hb) 2⟩
  have hkeep2 : ∀ w', Z w' → w'.cell? ⟨g, 2, none⟩ = some (.int .i64 0) := fun w' hz => cellS72_2 ((hZ w' hz).trans hb)
  by_cases hcc : c0 = f1.toNat
  · rw [if_pos hcc, show c0 - f1.toNat = 0 by omega] at hcl
    have hcl := Lib.hid hcl
    clear hb hR
    go_enter Tryd.func51, Tryd.ntmps51
    go_wp2_with fail
    go_region_held3 (fun w' => w'.cell? ⟨g, 0, none⟩ = some (.slice A0 f0.length c0) ∧ w'.cell? ⟨g, 1, none⟩ = some (.int .i64 f1)) (first | exact ⟨hc0, hc1⟩ | exact hkeep _ (by assumption)) (first | (refine hcl.out.mono ?_; rintro e' w1 ⟨rfl, hz⟩))
    have hz := hz
    obtain ⟨k0, k1⟩ := hkeep _ hz
    obtain ⟨fz1, fz2⟩ := hfro _ hz
    have k2 := hkeep2 _ hz
    by_cases he : e = 0
    · subst he
      go_wp2_with fail
      (first | go_end0 | ((try simp only [Exit.inBlock, Exit.then]); refine bodyPost_ret (results_none rfl _ _ _) rfl ?_))
      exact ⟨rfl, w1, hz, by first | rfl | exact (if_pos rfl).symm | simp⟩
    · go_wp2_with fail
      (first | go_end0 | ((try simp only [Exit.inBlock, Exit.then]); refine bodyPost_ret (results_none rfl _ _ _) rfl ?_))
      exact ⟨rfl, w1, hz, by first | rfl | exact (if_neg he).symm | simp [he]⟩
  · rw [if_neg hcc] at hcl
    have hcl := Lib.hid hcl
    clear hb hR
    go_enter Tryd.func51, Tryd.ntmps51
    go_wp2_with fail
    go_region_held3 (fun w' => w'.cell? ⟨g, 0, none⟩ = some (.slice A0 f0.length c0) ∧ w'.cell? ⟨g, 1, none⟩ = some (.int .i64 f1)) (first | exact ⟨hc0, hc1⟩ | exact hkeep _ (by assumption)) (first | (refine hcl.out.mono ?_; rintro e' w1 ⟨rfl, hz⟩))
    have hz := hz
    obtain ⟨k0, k1⟩ := hkeep _ hz
    obtain ⟨fz1, fz2⟩ := hfro _ hz
    have k2 := hkeep2 _ hz
    by_cases he : e = 0
    · subst he
      go_wp2_with fail
      (first | go_end0 | ((try simp only [Exit.inBlock, Exit.then]); refine bodyPost_ret (results_none rfl _ _ _) rfl ?_))
      exact ⟨rfl, w1, hz, by first | rfl | exact (if_pos rfl).symm | simp⟩
    · go_wp2_with fail
      (first | go_end0 | ((try simp only [Exit.inBlock, Exit.then]); refine bodyPost_ret (results_none rfl _ _ _) rfl ?_))
      exact ⟨rfl, w1, hz, by first | rfl | exact (if_neg he).symm | simp [he]⟩
theorem wire_res {P : Program} {fn : Func} {p : Tmp} {ty : TypeId} (h : fn.results = #[.cell p ty]) (tmps : Array Value) (w : World) (a : Addr) (v : Value) (d : TypeDesc) (hp : tmps.getD p undef = .pointer (some a)) (hu : P.underlying ty = some d) (hd : (match d with | .struct _ | .array _ _ => true | _ => false) = false) (hc : w.cell? a = some v) : (results fn tmps).run P w = .ok v w := by
  have hp' : tmps[p]?.getD undef = .pointer (some a) := by simpa using hp
  have hA : (isAgg ty).run P w = .ok false w := by
    unfold isAgg
    rw [Sem.run_bind, run_underlying hu]
    cases d <;> simp at hd <;> simp [Result.andThen]
  have hL : (loadVar ty a).run P w = .ok v w := by
    unfold loadVar
    rw [Sem.run_bind, hA]
    simp [Result.andThen, hc]
  simp [results, h, hp', asAddr, hL]
theorem wire_enter {P : Program} {f : FuncId} {fn : Func} {c : Code} (hf : P.funcs[f]? = some fn) (hname : (fn.name == "runtime.NumGoroutine") = false) (hb : fn.body = some c) (args : Array Value) (w : World) :
    (callFunc f args).run P w = .ok (.enter f args) w := by
  have h1 : fn.name ≠ "runtime.NumGoroutine" := by simpa using hname
  simp [callFunc, hf, h1, hb]
theorem wire_keep_far {w W : World} {g o : Nat} {u : Value} (h : KeepBut w W g none) (ho : w.heap.size ≤ o) : KeepBut w (W.setCell ⟨o, 0, none⟩ u) g none :=
  ⟨by have := h.1; simpa using this, fun i hi hg hr => (Below.heap_setCell W ⟨o, 0, none⟩ u i (by show i ≠ o; omega)).trans (h.2 i hi hg hr)⟩
/-- a world behind 'read': o is the block of the result, made since w -/
structure wire_Fin (w0 w W : World) (o g : Nat) (v : Value) (t : Nat) (f0 : List Int) (f1 f2 : Int) : Prop where
  blk : W.heap[o]? = some (.cells #[v] t (0, 0))
  st : IsS72 w0 W g f0 f1 f2
  b0 : Below w0.heap.size w0 W
  kp : KeepBut w W g none
theorem wire_fin {w0 w w1 w2 : World} {o g : Nat} {v : Value} {t : Nat} {f0 : List Int} {f1 n e : Int} (hI : IsS72 w0 w g f0 f1 0) (hB : Below w0.heap.size w0 w) (hb : Below w.heap.size w w1) (ho : w1.heap[o]? = some (.cells #[v] t (0, 0))) (hge : w.heap.size ≤ o)
    (h2 : w2 = if e = 0 then w1.setCell ⟨g, 1, none⟩ (.int .i64 (f1 + n)) else w1.setCell ⟨g, 2, none⟩ (.int .i64 e)) : wire_Fin w0 w w2 o g v t f0 (if e = 0 then f1 + n else f1) e := by
  have hlt := hI.lt
  have hg := hI.ge
  have I1 := hI.below hb
  have B1 := below_then hB hB.size hb
  have K1 := KeepBut.of_below hb g none
  have hne : o ≠ g := by omega
  by_cases he : e = 0
  · subst he
    rw [if_pos rfl] at h2 ⊢
    subst h2
    exact ⟨blk_far ho hne _, I1.set_1 _, below_set B1 hg, K1.set_ 1 _⟩
  · rw [if_neg he] at h2 ⊢
    subst h2
    exact ⟨blk_far ho hne _, I1.set_2 _, below_set B1 hg, K1.set_ 2 _⟩
theorem wire_Fin.set {w0 w W : World} {o g : Nat} {v u : Value} {t : Nat} {f0 : List Int} {f1 f2 : Int} (h : wire_Fin w0 w W o g v t f0 f1 f2) (hge : w.heap.size ≤ o) (h0 : w0.heap.size ≤ o) (hne : g ≠ o) : wire_Fin w0 w (W.setCell ⟨o, 0, none⟩ u) o g u t f0 f1 f2 :=
  ⟨by simpa using blk_set h.blk 0 u, h.st.far hne u, below_set h.b0 h0, wire_keep_far h.kp hge⟩
theorem wire_vr_count (l : List Int) (k i : Nat) (n : Int) : 0 ≤ (wire_vr l k i n).2.1 ∧ (wire_vr l k i n).2.1 ≤ i + k := by
  induction k generalizing i n with
  | zero => simp [wire_vr]
  | succ k ih =>
    rw [wire_vr]
    split
    · simp; omega
    · split
      · simp; omega
      · split
        · simp; omega
        · have := ih (i + 1) (n + (l.getD i 0 - 128) * 128 ^ i)
          omega
theorem wire_varint_count {l : List Int} {r1 r2 r3 : Int} (h : wire_varint.f l = some (r1, r2, r3)) : 0 ≤ r2 ∧ r2 ≤ 10 := by
  unfold wire_varint.f at h
  split at h
  · have := wire_vr_count l 10 0 0
    rw [Option.some.inj h] at this
    simpa using this
  · cases h
/-- the world in which a text's closure is called -/
def wire_W2 (w : World) (a1 : Int) (z : Value) (t : Nat) : World := (w.alloc (.cells #[.int .i64 a1] 3)).alloc (.cells #[z] t)
theorem wire_W2_o (w : World) (a1 : Int) (z : Value) (t : Nat) : (wire_W2 w a1 z t).heap[w.heap.size + 1]? = some (.cells #[z] t (0, 0)) := by
  have := heap_alloc_new (w.alloc (.cells #[.int .i64 a1] 3)) (.cells #[z] t)
  simpa [wire_W2] using this
theorem wire_W2_p (w : World) (a1 : Int) (z : Value) (t : Nat) : (wire_W2 w a1 z t).heap[w.heap.size]? = some (.cells #[.int .i64 a1] 3 (0, 0)) := by
  have h := heap_alloc_new w (.cells #[.int .i64 a1] 3)
  have := blk_alloc h (.cells #[z] t)
  exact this
theorem wire_W2_b (w : World) (a1 : Int) (z : Value) (t : Nat) : Below w.heap.size w (wire_W2 w a1 z t) := below_alloc (below_alloc (Below.refl _ _) _) _
theorem wire_vr_len (l : List Int) (k i : Nat) (n : Int) : (wire_vr l k i n).2.1 ≤ l.length := by
  induction k generalizing i n with
  | zero => simp [wire_vr]
  | succ k ih =>
    rw [wire_vr]
    split
    · simp
    · split
      · simp
      · split
        · simp; omega
        · exact ih _ _
theorem wire_c55_no (W : World) (A : Option Addr) (c : Nat) (l : List Int) (o : Nat) (r1 r2 r3 : Int) (hr : Kd.C (Kd.int .u8) W A l.length l) (hc : l.length ≤ c) (hf : wire_varint.f l = some (r1, r2, r3)) (hm : 2147483647 < r1) :
    Calls Tryd.prog 52 #[.slice A l.length c, .pointer (some ⟨o, 0, none⟩)] W fun e w' => e = .returned (.tuple #[.int .i64 0, .int .i64 4]) ∧ w' = W := by
  go_enter Tryd.func52, Tryd.ntmps52
  go_wp2_with fail
  refine (wire_varint.calls A c l r1 r2 r3 _ hr hc hf).mono ?_; rintro e w1 ⟨rfl, rfl⟩
  go_wp2_with fail
  go_ret2
  exact ⟨rfl, rfl⟩
theorem wire_c55 (W : World) (A : Option Addr) (c : Nat) (l : List Int) (o : Nat) (r1 r2 r3 : Int) (hr : Kd.C (Kd.int .u8) W A l.length l) (hc : l.length ≤ c) (hf : wire_varint.f l = some (r1, r2, r3)) (h0 : 0 ≤ r1) (hm : r1 ≤ 2147483647) (x0 : Value) (hcell : W.cell? ⟨o, 0, none⟩ = some x0) (hfr : W.frozen? ⟨o, 0, none⟩ = false) :
    Calls Tryd.prog 52 #[.slice A l.length c, .pointer (some ⟨o, 0, none⟩)] W fun e w' => e = .returned (.tuple #[.int .i64 r2, .int .i64 r3]) ∧ w' = W.setCell ⟨o, 0, none⟩ (.int .i64 r1) := by
  go_enter Tryd.func52, Tryd.ntmps52
  go_wp2_with fail
  refine (wire_varint.calls A c l r1 r2 r3 _ hr hc hf).mono ?_; rintro e w1 ⟨rfl, rfl⟩
  go_wp2_with fail
  go_ret2
  exact ⟨rfl, rfl⟩
def wire_Reader_Int.f (s0_0 : List Int) (s0_1 s0_2 : Int) : Option (Int × Int × Int) :=
  if s0_2 = 0 then (if 0 ≤ s0_1 ∧ s0_1 ≤ s0_0.length ∧ s0_0.length ≤ 140737488355328 then (wire_varint.f (s0_0.drop s0_1.toNat)).bind fun v => (if 2147483647 < v.1 then some (0, s0_1, 4) else if 0 ≤ v.1 then some (v.1, (if v.2.2 = 0 then s0_1 + v.2.1 else s0_1), v.2.2) else none) else none) else some (0, s0_1, s0_2)
set_option maxHeartbeats 1000000 in
theorem wire_Reader_Int.calls (g : Nat) (s0_0 : List Int) (s0_1 : Int) (s0_2 : Int) (r1 : Int) (r2 : Int) (r3 : Int) (w0 w : World) (hI : IsS72 w0 w g s0_0 s0_1 s0_2) (hB : Below w0.heap.size w0 w) (h : wire_Reader_Int.f s0_0 s0_1 s0_2 = some (r1, r2, r3)) :
    Calls Tryd.prog 37 #[.pointer (some ⟨g, 0, none⟩)] w fun e w' => e = .returned (.int .i64 r1) ∧ IsS72 w0 w' g s0_0 r2 r3 ∧ Below w0.heap.size w0 w' ∧ KeepBut w w' g none := by
  have ho : (w.alloc (.cells #[.int .i64 0] 3)).heap[w.heap.size]? = some (.cells #[.int .i64 0] 3 (0, 0)) := heap_alloc_new w _
  have hBa : Below w.heap.size w (w.alloc (.cells #[.int .i64 0] 3)) := below_alloc (Below.refl _ _) _
  have h0 := hB.size
  have hne : g ≠ w.heap.size := by have := hI.lt; omega
  unfold wire_Reader_Int.f at h
  by_cases h2 : s0_2 = 0
  · subst h2
    rw [if_pos rfl] at h
    by_cases hd : 0 ≤ s0_1 ∧ s0_1 ≤ s0_0.length ∧ s0_0.length ≤ 140737488355328
    · rw [if_pos hd] at h
      obtain ⟨⟨v, c, e⟩, hv, hr⟩ := Option.bind_eq_some_iff.1 h
      have hc := wire_varint_count hv
      have hr : (if 2147483647 < v then some ((0 : Int), s0_1, (4 : Int)) else if 0 ≤ v then some (v, (if e = 0 then s0_1 + c else s0_1), e) else none) = some (r1, r2, r3) := hr
      by_cases hm : 2147483647 < v
      · rw [if_pos hm] at hr
        obtain ⟨rfl, rfl, rfl⟩ : 0 = r1 ∧ s0_1 = r2 ∧ 4 = r3 := by simpa using hr
        have RD := wire_rd g s0_0 s0_1 w0 (w.alloc (.cells #[.int .i64 0] 3)) (hI.alloc _) (below_alloc hB _) 52 (fun args W => wire_enter Tryd.func52 (by rfl) rfl args W) #[.pointer (some ⟨w.heap.size, 0, none⟩)] 0 4 (fun w' => w' = (w.alloc (.cells #[.int .i64 0] 3)).drew) ⟨hd.1, hd.2.1⟩ (by omega)
          (fun W A c' hW hC hcc => by subst hW; exact wire_c55_no _ A c' _ _ _ _ _ hC hcc hv hm)
          (fun w' hw => by subst hw; rfl)
        have RD := Lib.hid RD
        clear h hr hv
        go_enter Tryd.func37, Tryd.ntmps37
        go_wp2_with fail
        refine RD.out.mono ?_; rintro e' w2 ⟨rfl, w1, hw1, hw2⟩
        have F := wire_fin (o := w.heap.size) (v := .int .i64 0) (t := 3) hI hB (w1 := w1) (by subst hw1; exact below_drew1 hBa) (by subst hw1; exact ho) (Nat.le_refl _) hw2
        rw [if_neg (by decide)] at F
        clear hw1 hw2
        have k0 : w2.cell? ⟨w.heap.size, 0, none⟩ = some (.int .i64 0) := blk_cell F.blk 0
        have kf := blk_frozen F.blk 0
        have F2 := F.set (u := .int .i64 0) (Nat.le_refl _) (by omega) hne
        go_wp2_with fail
        refine bodyPost_ret (wire_res rfl _ _ ⟨w.heap.size, 0, none⟩ _ _ rfl Tryd.underlying3 rfl (blk_cell F2.blk 0)) rfl ?_
        exact ⟨rfl, F2.st, F2.b0, F2.kp⟩
      · rw [if_neg hm] at hr
        by_cases hp : 0 ≤ v
        · rw [if_pos hp] at hr
          obtain ⟨rfl, hr2, rfl⟩ : v = r1 ∧ (if e = 0 then s0_1 + c else s0_1) = r2 ∧ e = r3 := by simpa using hr
          have RD := wire_rd g s0_0 s0_1 w0 (w.alloc (.cells #[.int .i64 0] 3)) (hI.alloc _) (below_alloc hB _) 52 (fun args W => wire_enter Tryd.func52 (by rfl) rfl args W) #[.pointer (some ⟨w.heap.size, 0, none⟩)] c e (fun w' => w' = (w.alloc (.cells #[.int .i64 0] 3)).drew.setCell ⟨w.heap.size, 0, none⟩ (.int .i64 v)) ⟨hd.1, hd.2.1⟩ (by omega)
            (fun W A c' hW hC hcc => by subst hW; exact wire_c55 _ A c' _ _ _ _ _ hC hcc hv hp (by omega) _ (blk_cell ho 0) (blk_frozen ho 0))
            (fun w' hw => by subst hw; exact Below.heap_setCell _ _ _ _ hne)
          have RD := Lib.hid RD
          clear h hr hv
          go_enter Tryd.func37, Tryd.ntmps37
          go_wp2_with fail
          refine RD.out.mono ?_; rintro e' w2 ⟨rfl, w1, hw1, hw2⟩
          have F := wire_fin (o := w.heap.size) (v := .int .i64 v) (t := 3) hI hB (w1 := w1) (by subst hw1; exact below_set (below_drew1 hBa) (Nat.le_refl _)) (by subst hw1; simpa using blk_set (w := (w.alloc (.cells #[.int .i64 0] 3)).drew) ho 0 (.int .i64 v)) (Nat.le_refl _) hw2
          rw [hr2] at F
          clear hw1 hw2 hr2
          have k0 : w2.cell? ⟨w.heap.size, 0, none⟩ = some (.int .i64 v) := blk_cell F.blk 0
          have kf := blk_frozen F.blk 0
          have F2 := F.set (u := .int .i64 v) (Nat.le_refl _) (by omega) hne
          go_wp2_with fail
          refine bodyPost_ret (wire_res rfl _ _ ⟨w.heap.size, 0, none⟩ _ _ rfl Tryd.underlying3 rfl (blk_cell F2.blk 0)) rfl ?_
          exact ⟨rfl, F2.st, F2.b0, F2.kp⟩
        · rw [if_neg hp] at hr
          cases hr
    · rw [if_neg hd] at h
      cases h
  · rw [if_neg h2] at h
    obtain ⟨rfl, rfl, rfl⟩ : 0 = r1 ∧ s0_1 = r2 ∧ s0_2 = r3 := by simpa using h
    have RD := wire_rd_gone g s0_0 s0_1 s0_2 w0 (w.alloc (.cells #[.int .i64 0] 3)) (hI.alloc _) 52 #[.pointer (some ⟨w.heap.size, 0, none⟩)] h2
    have RD := Lib.hid RD
    clear h
    go_enter Tryd.func37, Tryd.ntmps37
    go_wp2_with fail
    refine RD.out.mono ?_; rintro e' w2 ⟨rfl, rfl⟩
    have F : wire_Fin w0 w (w.alloc (.cells #[.int .i64 0] 3)) w.heap.size g (.int .i64 0) 3 s0_0 s0_1 s0_2 := ⟨ho, hI.alloc _, below_alloc hB _, KeepBut.of_below hBa g none⟩
    go_wp2_with fail
    refine bodyPost_ret (wire_res rfl _ _ ⟨w.heap.size, 0, none⟩ _ _ rfl Tryd.underlying3 rfl (blk_cell F.blk 0)) rfl ?_
    exact ⟨rfl, F.st, F.b0, F.kp⟩

theorem wire_C_none {W : World} {l : List Int} (h : Kd.C (Kd.int .u8) W none l.length l) : l = [] := by
  have := (wire_none none l W h rfl).1
  exact List.length_eq_zero_iff.1 this
set_option maxHeartbeats 1000000 in
theorem wire_clone (A : Option Addr) (c : Nat) (l : List Int) (w : World) (hr : Kd.C (Kd.int .u8) w A l.length l) (hc : l.length ≤ c) (hl : l.length ≤ 140737488355328) :
    Calls Tryd.prog 14 #[.slice A l.length c] w fun e w' => ∃ v : Value, e = .returned v ∧ Kd.R (Kd.int .u8) 5 w' w.heap.size (fun _ => True) v l ∧ Below w.heap.size w w' := by
  have heq := fun A => run_eql_slice_nil (P := Tryd.prog) w 22 5 A l.length c Tryd.underlying22
  have heq0 := heq none
  cases A with
  | none =>
    have hz := wire_C_none hr
    have hn : l.length = 0 := by rw [hz]; rfl
    clear hr heq
    rw [hn] at hc heq0 ⊢
    go_enter Tryd.func14, Tryd.ntmps14
    go_wp2_with fail
    go_ret
    rw [hz]
    exact ⟨_, rfl, Kd.R_nil _ _ _ _ _, Below.refl _ _⟩
  | some b =>
    have HR := Lib.hid hr
    have heq := heq (some b)
    clear hr heq0
    have hh : (w.alloc (.cells #[] 5)).heap[w.heap.size]? = some (.cells #[] 5 (0, 0)) := heap_alloc_new w _
    have hBa : Below w.heap.size w (w.alloc (.cells #[] 5)) := below_alloc (Below.refl _ _) _
    have HC : Kd.C (Kd.int .u8) (w.alloc (.cells #[] 5)) (some b) l.length l := Kd.C_below HR.out hBa
    have HO : Kd.R (Kd.int .u8) 5 (w.alloc (.cells #[] 5)) w.heap.size (fun _ => True) (.slice (some ⟨w.heap.size, 0, none⟩) 0 0) [] := wire_R_of_own (n := 0) (xs := []) rfl ⟨rfl, .inr ⟨w.heap.size, 0, #[], rfl, Nat.le_refl _, hh, Nat.le_refl _, Nat.zero_le _, rfl, rfl⟩⟩
    have HS := hBa.size
    have HC := Lib.hid HC
    have HO := Lib.hid HO
    have HB := Lib.hid hBa
    clear hh hBa HR
    go_enter Tryd.func14, Tryd.ntmps14
    go_wp2_with (at_builtin; refine Kd.R_append_row (Value.int .u8) (0 : Int) (w0 := w) w.heap.size rfl (.tmp 5) (.tmp 6) 22 5 (.int .u8 0) 1 rfl Tryd.underlying22 info5 rfl (by decide) _ [] l (some b) l.length c (fun _ => True) rfl rfl (fun _ _ => trivial) HO.out HC.out HB.out HS (by simp; omega) ?_; intro v1 w1 ho hb hg hat)
    go_wp2_with fail
    go_ret
    exact ⟨_, rfl, ho, hb⟩
theorem wire_c56_form (W : World) (A : Option Addr) (c m : Nat) (p o : Nat) (n : Int) (hp : W.cell? ⟨p, 0, none⟩ = some (.int .i64 n)) (hn : n < 0) :
    Calls Tryd.prog 54 #[.slice A m c, .pointer (some ⟨p, 0, none⟩), .pointer (some ⟨o, 0, none⟩)] W fun e w' => e = .returned (.tuple #[.int .i64 0, .int .i64 4]) ∧ w' = W := by
  go_enter Tryd.func54, Tryd.ntmps54
  go_wp2_with fail
  go_ret2
  exact ⟨rfl, rfl⟩
theorem wire_c56_short (W : World) (A : Option Addr) (c m : Nat) (p o : Nat) (n : Int) (hp : W.cell? ⟨p, 0, none⟩ = some (.int .i64 n)) (hn : (m : Int) < n) :
    Calls Tryd.prog 54 #[.slice A m c, .pointer (some ⟨p, 0, none⟩), .pointer (some ⟨o, 0, none⟩)] W fun e w' => e = .returned (.tuple #[.int .i64 0, .int .i64 3]) ∧ w' = W := by
  go_enter Tryd.func54, Tryd.ntmps54
  go_wp2_with fail
  go_ret2
  exact ⟨rfl, rfl⟩
theorem wire_c56 (W : World) (A : Option Addr) (c : Nat) (l : List Int) (p o : Nat) (n : Int) (hr : Kd.C (Kd.int .u8) W A l.length l) (hc : l.length ≤ c) (hl : l.length ≤ 140737488355328) (hp : W.cell? ⟨p, 0, none⟩ = some (.int .i64 n)) (hn : 0 ≤ n ∧ n ≤ l.length) (hpo : p ≠ o)
    (x0 : Value) (hcell : W.cell? ⟨o, 0, none⟩ = some x0) (hfr : W.frozen? ⟨o, 0, none⟩ = false) (hfr2 : ∀ w1, Below W.heap.size W w1 → w1.frozen? ⟨o, 0, none⟩ = false) :
    Calls Tryd.prog 54 #[.slice A l.length c, .pointer (some ⟨p, 0, none⟩), .pointer (some ⟨o, 0, none⟩)] W fun e w' => e = .returned (.tuple #[.int .i64 n, .int .i64 0]) ∧ ∃ v w1, Kd.R (Kd.int .u8) 5 w1 W.heap.size (fun _ => True) v (l.take n.toNat) ∧ Below W.heap.size W w1 ∧ w' = w1.setCell ⟨o, 0, none⟩ v := by
  have hlen : (l.take n.toNat).length = n.toNat := by rw [List.length_take]; omega
  have hcl := wire_clone A c (l.take n.toNat) W (Kd.C_take (m := n.toNat) hr (by omega)) (by rw [hlen]; omega) (by rw [hlen]; omega)
  rw [hlen] at hcl
  have CL := Lib.hid hcl
  clear hcl hr
  go_enter Tryd.func54, Tryd.ntmps54
  go_wp2_with fail
  refine CL.out.mono ?_; rintro e w1 ⟨v, rfl, hR, hB⟩
  rcases (Kd.own_of_R hR).2 with ⟨rfl, _⟩ | ⟨g', cap, cur, rfl, _⟩
  · have q1 : w1.cell? ⟨o, 0, none⟩ = some x0 := pw_cell_below hB hcell
    have q2 := hfr2 w1 hB
    have q3 : w1.cell? ⟨p, 0, none⟩ = some (.int .i64 n) := pw_cell_below hB hp
    have q4 : (w1.setCell ⟨o, 0, none⟩ (.slice none 0 0)).cell? ⟨p, 0, none⟩ = some (.int .i64 n) := by
      rw [World.cell?_setCell_other (w := w1) (a := ⟨o, 0, none⟩) (b := ⟨p, 0, none⟩) (h := by intro e; injection e with e1; exact hpo e1.symm)]
      exact q3
    have hB := Lib.hid hB
    have hR := Lib.hid hR
    clear hcell hfr hfr2 hp
    go_wp2_with fail
    go_ret2
    exact ⟨rfl, _, w1, hR.out, hB.out, rfl⟩
  · rw [hlen] at hR
    have q1 : w1.cell? ⟨o, 0, none⟩ = some x0 := pw_cell_below hB hcell
    have q2 := hfr2 w1 hB
    have q3 : w1.cell? ⟨p, 0, none⟩ = some (.int .i64 n) := pw_cell_below hB hp
    have q4 : (w1.setCell ⟨o, 0, none⟩ (.slice (some ⟨g', 0, none⟩) n.toNat cap)).cell? ⟨p, 0, none⟩ = some (.int .i64 n) := by
      rw [World.cell?_setCell_other (w := w1) (a := ⟨o, 0, none⟩) (b := ⟨p, 0, none⟩) (h := by intro e; injection e with e1; exact hpo e1.symm)]
      exact q3
    have hB := Lib.hid hB
    have hR := Lib.hid hR
    clear hcell hfr hfr2 hp
    go_wp2_with fail
    go_ret2
    exact ⟨rfl, _, w1, hR.out, hB.out, rfl⟩
theorem wire_R_lower {W : World} {b b' e : Nat} {ok : Nat → Prop} {v : Value} {xs : List Int} (h : Kd.R (Kd.int .u8) e W b ok v xs) (hb : b' ≤ b) : Kd.R (Kd.int .u8) e W b' ok v xs := Kd.R_of_own (wire_ownsRow_base hb (Kd.own_of_R h)) h.1
def wire_Reader_Bytes.f (s0_0 : List Int) (s0_1 s0_2 : Int) (a1 : Int) : Option (List Int × Int × Int) :=
  if s0_2 = 0 then (if 0 ≤ s0_1 ∧ s0_1 ≤ s0_0.length ∧ s0_0.length ≤ 140737488355328 then (if a1 < 0 then some ([], s0_1, 4) else if ((s0_0.drop s0_1.toNat).length : Int) < a1 then some ([], s0_1, 3) else some ((s0_0.drop s0_1.toNat).take a1.toNat, s0_1 + a1, 0)) else none) else some ([], s0_1, s0_2)
set_option maxHeartbeats 1000000 in
theorem wire_Bytes_quiet (g : Nat) (s0_0 : List Int) (s0_1 : Int) (a1 n e : Int) (w0 w : World) (hI : IsS72 w0 w g s0_0 s0_1 0) (hB : Below w0.heap.size w0 w) (hd : 0 ≤ s0_1 ∧ s0_1 ≤ s0_0.length) (hn : n = 0) (he : e ≠ 0) (hlen : s0_0.length ≤ 140737488355328)
    (hcl : ∀ (W : World) (A : Option Addr) (c : Nat), W.cell? ⟨w.heap.size, 0, none⟩ = some (.int .i64 a1) → Calls Tryd.prog 54 #[.slice A (s0_0.drop s0_1.toNat).length c, .pointer (some ⟨w.heap.size, 0, none⟩), .pointer (some ⟨w.heap.size + 1, 0, none⟩)] W fun e' w' => e' = .returned (.tuple #[.int .i64 n, .int .i64 e]) ∧ w' = W) :
    Calls Tryd.prog 39 #[.pointer (some ⟨g, 0, none⟩), .int .i64 a1] w fun e' w' => e' = .returned (.slice none 0 0) ∧ IsS72 w0 w' g s0_0 s0_1 e ∧ Below w0.heap.size w0 w' ∧ KeepBut w w' g none := by
  subst hn
  have h0 := hB.size
  have hne : g ≠ w.heap.size + 1 := by have := hI.lt; omega
  have RD := wire_rd g s0_0 s0_1 w0 (wire_W2 w a1 (.slice none 0 0) 22) (hI.below (wire_W2_b ..)) (below_then hB hB.size (wire_W2_b ..)) 54 (fun args W => wire_enter Tryd.func54 (by rfl) rfl args W) #[.pointer (some ⟨w.heap.size, 0, none⟩), .pointer (some ⟨w.heap.size + 1, 0, none⟩)] 0 e (fun w' => w' = (wire_W2 w a1 (.slice none 0 0) 22).drew) hd (by omega)
    (fun W A c' hW hC hcc => by subst hW; exact hcl _ A c' (blk_cell (wire_W2_p ..) 0))
    (fun w' hw => by subst hw; rfl)
  have RD := Lib.hid RD
  clear hcl
  go_enter Tryd.func39, Tryd.ntmps39
  go_wp2_with fail
  refine RD.out.mono ?_; rintro e' w2 ⟨rfl, w1, hw1, hw2⟩
  have F := wire_fin (o := w.heap.size + 1) (v := .slice none 0 0) (t := 22) hI hB (w1 := w1) (by subst hw1; exact below_drew1 (wire_W2_b ..)) (by subst hw1; exact wire_W2_o ..) (by omega) hw2
  rw [if_neg he] at F
  clear hw1 hw2
  have k0 : w2.cell? ⟨w.heap.size + 1, 0, none⟩ = some (.slice none 0 0) := blk_cell F.blk 0
  have kf := blk_frozen F.blk 0
  have F2 := F.set (u := .slice none 0 0) (by omega) (by omega) hne
  go_wp2_with fail
  refine bodyPost_ret (wire_res rfl _ _ ⟨w.heap.size + 1, 0, none⟩ _ _ rfl Tryd.underlying22 rfl (blk_cell F2.blk 0)) rfl ?_
  exact ⟨rfl, F2.st, F2.b0, F2.kp⟩
/-- the world behind the call of Bytes' closure -/
def wire_Z (w : World) (l : List Int) (w' : World) : Prop := ∃ v, w'.heap[w.heap.size + 1]? = some (.cells #[v] 22 (0, 0)) ∧ Below w.heap.size w w' ∧ Kd.R (Kd.int .u8) 5 w' w.heap.size (fun k => w.heap.size + 2 ≤ k) v l
theorem wire_Z_of (w W w1 w' : World) (a1 : Int) (l : List Int) (v : Value) (hW : W = (wire_W2 w a1 (.slice none 0 0) 22).drew) (hR : Kd.R (Kd.int .u8) 5 w1 W.heap.size (fun _ => True) v l) (hB : Below W.heap.size W w1) (hw : w' = w1.setCell ⟨w.heap.size + 1, 0, none⟩ v) : wire_Z w l w' := by
  subst hw
  have hs : W.heap.size = w.heap.size + 2 := by subst hW; simp [wire_W2]
  have hWb : Below w.heap.size w W := by subst hW; exact below_drew1 (wire_W2_b ..)
  have ho : W.heap[w.heap.size + 1]? = some (.cells #[.slice none 0 0] 22 (0, 0)) := by subst hW; exact wire_W2_o ..
  have ho1 : w1.heap[w.heap.size + 1]? = some (.cells #[.slice none 0 0] 22 (0, 0)) := (hB.block _ (by omega)).trans ho
  have hR2 := Kd.R_keep (g := w.heap.size + 1) (Kd.R_bound hR) ((KeepBut.refl w1 (w.heap.size + 1) none).set_ 0 v) (fun k hk => by have := hk.2.1; omega)
  refine ⟨v, by simpa using blk_set ho1 0 v, below_set (below_then hWb hWb.size hB) (by omega), wire_R_lower (Kd.R_mono hR2 (fun k hk => by have := hk.2.1; omega)) (by omega)⟩
set_option maxHeartbeats 1000000 in
theorem wire_Reader_Bytes.calls (g : Nat) (s0_0 : List Int) (s0_1 : Int) (s0_2 : Int) (a1 : Int) (r1 : List Int) (r2 : Int) (r3 : Int) (w0 w : World) (hI : IsS72 w0 w g s0_0 s0_1 s0_2) (hB : Below w0.heap.size w0 w) (h : wire_Reader_Bytes.f s0_0 s0_1 s0_2 a1 = some (r1, r2, r3)) :
    Calls Tryd.prog 39 #[.pointer (some ⟨g, 0, none⟩), .int .i64 a1] w fun e w' => ∃ v0_ : Value, e = .returned (v0_) ∧ Kd.R (Kd.int .u8) 5 w' w.heap.size (fun _ => True) v0_ r1 ∧ IsS72 w0 w' g s0_0 r2 r3 ∧ Below w0.heap.size w0 w' ∧ KeepBut w w' g none := by
  have h0 := hB.size
  have hne : g ≠ w.heap.size + 1 := by have := hI.lt; omega
  unfold wire_Reader_Bytes.f at h
  by_cases h2 : s0_2 = 0
  · subst h2
    rw [if_pos rfl] at h
    by_cases hd : 0 ≤ s0_1 ∧ s0_1 ≤ s0_0.length ∧ s0_0.length ≤ 140737488355328
    · rw [if_pos hd] at h
      have hll : (s0_0.drop s0_1.toNat).length ≤ 140737488355328 := by rw [List.length_drop]; omega
      by_cases hm : a1 < 0
      · rw [if_pos hm] at h
        obtain ⟨rfl, rfl, rfl⟩ : [] = r1 ∧ s0_1 = r2 ∧ 4 = r3 := by simpa using h
        refine (wire_Bytes_quiet g s0_0 s0_1 a1 0 4 w0 w hI hB ⟨hd.1, hd.2.1⟩ rfl (by decide) hd.2.2 (fun W A c' hp => wire_c56_form W A c' _ _ _ a1 hp hm)).mono ?_
        rintro e' w' ⟨rfl, hs, hb, hk⟩
        exact ⟨_, rfl, Kd.R_nil _ _ _ _ _, hs, hb, hk⟩
      · rw [if_neg hm] at h
        by_cases hs : ((s0_0.drop s0_1.toNat).length : Int) < a1
        · rw [if_pos hs] at h
          obtain ⟨rfl, rfl, rfl⟩ : [] = r1 ∧ s0_1 = r2 ∧ 3 = r3 := by simpa using h
          refine (wire_Bytes_quiet g s0_0 s0_1 a1 0 3 w0 w hI hB ⟨hd.1, hd.2.1⟩ rfl (by decide) hd.2.2 (fun W A c' hp => wire_c56_short W A c' _ _ _ a1 hp hs)).mono ?_
          rintro e' w' ⟨rfl, hs, hb, hk⟩
          exact ⟨_, rfl, Kd.R_nil _ _ _ _ _, hs, hb, hk⟩
        · rw [if_neg hs] at h
          obtain ⟨hr1, rfl, rfl⟩ : (s0_0.drop s0_1.toNat).take a1.toNat = r1 ∧ s0_1 + a1 = r2 ∧ 0 = r3 := by simpa using h
          have RD := wire_rd g s0_0 s0_1 w0 (wire_W2 w a1 (.slice none 0 0) 22) (hI.below (wire_W2_b ..)) (below_then hB hB.size (wire_W2_b ..)) 54 (fun args W => wire_enter Tryd.func54 (by rfl) rfl args W) #[.pointer (some ⟨w.heap.size, 0, none⟩), .pointer (some ⟨w.heap.size + 1, 0, none⟩)] a1 0 (wire_Z w r1) ⟨hd.1, hd.2.1⟩ (by rw [List.length_drop] at hs; omega)
            (fun W A c' hW hC hcc => by
              refine (wire_c56 W A c' _ w.heap.size (w.heap.size + 1) a1 hC hcc hll (by subst hW; exact blk_cell (wire_W2_p ..) 0) (by omega) (by omega) (.slice none 0 0) (by subst hW; exact blk_cell (wire_W2_o ..) 0) (by subst hW; exact blk_frozen (wire_W2_o ..) 0) (fun w1 hb => by subst hW; exact blk_frozen ((hb.block _ (by simp [wire_W2])).trans (wire_W2_o ..)) 0)).mono ?_
              rintro e' w' ⟨rfl, v, w1, hR, hb, hw⟩
              rw [hr1] at hR
              exact ⟨rfl, wire_Z_of w W w1 w' a1 r1 v hW hR hb hw⟩)
            (fun w' hz => by
              obtain ⟨v, _, hb, _⟩ := hz
              rw [hb.block _ hI.lt, (wire_W2_b w a1 (.slice none 0 0) 22).block _ hI.lt])
          have RD := Lib.hid RD
          clear h hr1 hs
          go_enter Tryd.func39, Tryd.ntmps39
          go_wp2_with fail
          refine RD.out.mono ?_; rintro e' w2 ⟨rfl, w1, hw1, hw2⟩
          have hw3 : w2 = w1.setCell ⟨g, 1, none⟩ (.int .i64 (s0_1 + a1)) := by simpa using hw2
          obtain ⟨v, hblk, hbw, hR⟩ := hw1
          have F := wire_fin (o := w.heap.size + 1) (v := v) (t := 22) (w2 := w2) (n := a1) (e := 0) hI hB (w1 := w1) hbw hblk (by omega) (by rw [if_pos rfl]; exact hw3)
          rw [if_pos rfl] at F
          have hlt := hI.lt
          have R2 : Kd.R (Kd.int .u8) 5 w2 w.heap.size (fun k => w.heap.size + 2 ≤ k) v r1 := by
            subst hw3
            exact Kd.R_keep (g := g) hR ((KeepBut.refl w1 g none).set_ 1 _) (fun k hk => by omega)
          have F2 := F.set (u := v) (by omega) (by omega) hne
          have R3 : Kd.R (Kd.int .u8) 5 (w2.setCell ⟨w.heap.size + 1, 0, none⟩ v) w.heap.size (fun _ => True) v r1 := Kd.R_mono (Kd.R_keep (g := w.heap.size + 1) R2 ((KeepBut.refl w2 _ none).set_ 0 v) (fun k hk => by omega)) (fun _ _ => trivial)
          have k0 : w2.cell? ⟨w.heap.size + 1, 0, none⟩ = some v := blk_cell F.blk 0
          have kf := blk_frozen F.blk 0
          clear hw2 hw3 hR hblk hbw R2
          have R3 := Lib.hid R3
          rcases (Kd.own_of_R R3.out).2 with ⟨rfl, _⟩ | ⟨g', cap, cur, rfl, _⟩
          · go_wp2_with fail
            refine bodyPost_ret (wire_res rfl _ _ ⟨w.heap.size + 1, 0, none⟩ _ _ rfl Tryd.underlying22 rfl (blk_cell F2.blk 0)) rfl ?_
            exact ⟨_, rfl, R3.out, F2.st, F2.b0, F2.kp⟩
          · go_wp2_with fail
            refine bodyPost_ret (wire_res rfl _ _ ⟨w.heap.size + 1, 0, none⟩ _ _ rfl Tryd.underlying22 rfl (blk_cell F2.blk 0)) rfl ?_
            exact ⟨_, rfl, R3.out, F2.st, F2.b0, F2.kp⟩
    · rw [if_neg hd] at h
      cases h
  · rw [if_neg h2] at h
    obtain ⟨rfl, rfl, rfl⟩ : [] = r1 ∧ s0_1 = r2 ∧ s0_2 = r3 := by simpa using h
    have RD := wire_rd_gone g s0_0 s0_1 s0_2 w0 (wire_W2 w a1 (.slice none 0 0) 22) (hI.below (wire_W2_b ..)) 54 #[.pointer (some ⟨w.heap.size, 0, none⟩), .pointer (some ⟨w.heap.size + 1, 0, none⟩)] h2
    have RD := Lib.hid RD
    clear h
    have F : wire_Fin w0 w (wire_W2 w a1 (.slice none 0 0) 22) (w.heap.size + 1) g (.slice none 0 0) 22 s0_0 s0_1 s0_2 := ⟨wire_W2_o .., hI.below (wire_W2_b ..), below_then hB hB.size (wire_W2_b ..), KeepBut.of_below (wire_W2_b ..) g none⟩
    have F2 := F.set (u := .slice none 0 0) (by omega) (by omega) hne
    have k0 : (wire_W2 w a1 (.slice none 0 0) 22).cell? ⟨w.heap.size + 1, 0, none⟩ = some (.slice none 0 0) := blk_cell F.blk 0
    have kf := blk_frozen F.blk 0
    go_enter Tryd.func39, Tryd.ntmps39
    go_wp2_with fail
    refine RD.out.mono ?_; rintro e' w2 ⟨rfl, rfl⟩
    go_wp2_with fail
    refine bodyPost_ret (wire_res rfl _ _ ⟨w.heap.size + 1, 0, none⟩ _ _ rfl Tryd.underlying22 rfl (blk_cell F2.blk 0)) rfl ?_
    exact ⟨_, rfl, Kd.R_nil _ _ _ _ _, F2.st, F2.b0, F2.kp⟩

theorem wire_form {W : World} {b e : Nat} {ok : Nat → Prop} {v : Value} {xs : List Int} (h : Kd.R (Kd.int .u8) e W b ok v xs) : ∃ A c, v = .slice A xs.length c ∧ xs.length ≤ c ∧ Kd.C (Kd.int .u8) W A xs.length xs := by
  rcases (Kd.own_of_R h).2 with ⟨rfl, hn⟩ | ⟨g', cap, cur, rfl, _, _, hc, _⟩
  · obtain rfl := List.length_eq_zero_iff.1 hn
    exact ⟨none, 0, rfl, Nat.le_refl _, Kd.C_nil _ _⟩
  · exact ⟨_, cap, rfl, hc, (Kd.R_reads' h).2.2⟩
theorem wire_Err_ro (g : Nat) (f0 : List Int) (f1 f2 : Int) (w0 w : World) (hI : IsS72 w0 w g f0 f1 f2) : Calls Tryd.prog 38 #[.pointer (some ⟨g, 0, none⟩)] w fun e w' => e = .returned (.int .i64 f2) ∧ w' = w := by
  obtain ⟨A0, c0, hb, hg, hr0, hq0⟩ := hI
  have hc2 := cellS72_2 hb
  clear hb hr0
  go_enter Tryd.func38, Tryd.ntmps38
  go_wp2
  go_ret
  exact ⟨rfl, rfl⟩
theorem wire_Left_ro (g : Nat) (f0 : List Int) (f1 f2 : Int) (w0 w : World) (hI : IsS72 w0 w g f0 f1 f2) (hf : 0 ≤ f1 ∧ f1 ≤ f0.length) (hl : f0.length ≤ 140737488355328) : Calls Tryd.prog 46 #[.pointer (some ⟨g, 0, none⟩)] w fun e w' => e = .returned (.int .i64 ((f0.length : Int) - f1)) ∧ ∃ n, w' = w.drewN n := by
  obtain ⟨A0, c0, hb, hg, hr0, hq0⟩ := hI
  have hc0 := cellS72_0 hb
  have hc1 := cellS72_1 hb
  have hw : wrap64 ((f0.length : Int) - f1) = (f0.length : Int) - f1 := by unfold wrap64; omega
  clear hb hr0
  go_enter Tryd.func46, Tryd.ntmps46
  go_wp2
  repeat (go_quiet (fail); try go_wp2)
  go_ret
  first | exact ⟨rfl, _, rfl⟩ | exact ⟨by simp [hw], _, rfl⟩

end Go.Proofs.YtigcgdhihaibbaaDoor.PLz
