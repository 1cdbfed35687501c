/- The bytes of a number: wire's Put, for the texts of lz. No condition. -/
import Derived.Test.YtigcgdhihaibbaaDoorProg
import Derived.Below
import Derived.Deep.Draws
import Derived.Deep.AppendLies
import Derived.Maps.AppendAt
import Derived.OwnWalk
import Derived.Laws.BytesArg
import Derived.Laws.MakeOwn
import Derived.Laws.OwnMore
import Derived.Deep.OwnRows
import Derived.Tactics
import Derived.Lib.ConvBytes
import Derived.Laws.Slices
import Derived.WalkKit
import Derived.KernelRfl
import Derived.RowKit3
import Derived.Deep.LoopGhost
import Derived.Deep.QuietTactic
import Derived.BigQuiet
import Derived.WideLaws
import Derived.Deep.DeepCutAuto
import Derived.Deep.CutBlock
import Derived.Deep.RegionHeld3
import Derived.Laws.Rows
import Derived.Lib.AppendStr
import Derived.ArgAppend
import Derived.Laws.IdiomCopy
import Derived.OrdersHeld
import Derived.Laws.BitsLemmas
import Derived.RowKit
import Derived.Lib.Hide
import Derived.RangeFuncBox
import Derived.RangeFuncLeaves
import Derived.RangeFuncNested
import Derived.Shelf.Abstract
import Derived.WalkMore
import Derived.Laws.Bits64b
import Derived.Lib.LazyBuf
import Derived.OwnWalkIn
import Derived.TacticsInMore
import Derived.LoopNIn
import Derived.LoopIn
import Derived.Test.YtigcgdhihaibbaaDoorWWords
import Derived.Test.YtigcgdhihaibbaaDoorWLast
import Derived.Test.YtigcgdhihaibbaaDoorWRest
namespace Go.Proofs.YtigcgdhihaibbaaDoor.PLz
open Go.RowKit Go.Proofs.YtigcgdhihaibbaaDoorW.PrintWords Go.Proofs.YtigcgdhihaibbaaDoorW.PrintLast Go.Proofs.YtigcgdhihaibbaaDoorW.PrintMore
attribute [local go_sem] max2_int min2_int max_two min_two max_three min_three max_four min_four   -- for this text's walks alone
set_option linter.unusedVariables false
set_option linter.unusedSimpArgs false

-- NOT PRINTED: function 39 (slices_Clip_byte_byte)

theorem info5 : (Tryd.prog.info? 5).map (fun i => (i.zero, i.size, i.bytes)) = some (some (.int .u8 0), 1, 1) := by kernel_rfl
/-! ### wire_Put: function 17 -/
/-- a number's bytes, seven bits each, at most k + 1 of them -/
def wire_vb : Nat → Int → List Int
  | 0, n => [n % 256]
  | k + 1, n => if 128 ≤ n then (n % 128 + 128) :: wire_vb k (n / 128) else [n % 256]
def wire_Put.f (l0 : List Int) (a1 : Int) : Option (List Int) := if 0 ≤ a1 ∧ a1 < 18446744073709551616 ∧ l0.length + 20 ≤ 140737488355328 then some (l0 ++ wire_vb 9 a1) else none
theorem wire_or128 (x : Int) (h : 0 ≤ x ∧ x < 256) : Go.bits .or .u8 x 128 = x % 128 + 128 := by
  have all : ∀ y : Fin 256, Go.bits .or .u8 ((y.val : Nat) : Int) 128 = ((y.val : Nat) : Int) % 128 + 128 := by decide +kernel
  have := all ⟨x.toNat, by omega⟩
  simp only [Int.toNat_of_nonneg h.1] at this
  exact this
theorem wire_clip (A0 : Option Addr) (n c0 : Nat) (w : World) (h : n ≤ c0) : Calls Tryd.prog 32 #[.slice A0 n c0] w fun e w' => e = .returned (.slice A0 n n) ∧ w = w' := by
  go_enter Tryd.func32, Tryd.ntmps32
  go_wp2
  go_ret
  exact ⟨rfl, rfl⟩
theorem wire_vb_len (k : Nat) (n : Int) : 1 ≤ (wire_vb k n).length ∧ (wire_vb k n).length ≤ k + 1 := by
  induction k generalizing n with
  | zero => simp [wire_vb]
  | succ k ih =>
    simp only [wire_vb]
    split
    · have := ih (n / 128); simp; omega
    · simp
theorem wire_ownsRow_base {W : World} {b b' : Nat} {e : TypeId} {size n : Nat} {v : Value} {xs : List Value} (hb : b' ≤ b) (h : W.ownsRow b e size v n xs) : W.ownsRow b' e size v n xs := by
  obtain ⟨h1, h2⟩ := h
  refine ⟨h1, ?_⟩
  rcases h2 with h2 | ⟨g, cap, cur, e1, hg, r⟩
  · exact .inl h2
  · exact .inr ⟨g, cap, cur, e1, Nat.le_trans hb hg, r⟩
theorem wire_R_of_own {W : World} {b n : Nat} {e : TypeId} {v : Value} {xs : List Int} {vs : List Value} (hv : vs = xs.map (Value.int .u8)) (h : W.ownsRow b e 1 v n vs) : Kd.R (Kd.int .u8) e W b (fun _ => True) v xs := by
  subst hv
  have hn : xs.length = n := by have := h.1; simpa using this
  subst hn
  exact Kd.R_of_own h (fun _ _ => trivial)
theorem wire_vb_big (k : Nat) (n : Int) (h : 128 ≤ n) : wire_vb (k + 1) n = (n % 128 + 128) :: wire_vb k (n / 128) := by rw [wire_vb, if_pos h]
theorem wire_vb_small (k : Nat) (n : Int) (h0 : 0 ≤ n) (h : ¬ 128 ≤ n) : wire_vb k n = [n] := by
  have e : n % 256 = n := by omega
  cases k with
  | zero => rw [wire_vb, e]
  | succ k => rw [wire_vb, if_neg h, e]
/-- what is read, as the laws of append ask it -/
theorem wire_read (A0 : Option Addr) (l0 : List Int) (w : World) (hr : Kd.C (Kd.int .u8) w A0 l0.length l0) : ∀ b, A0 = some b → ∀ j u, (l0.map (Value.int .u8))[j]? = some u → w.cell? (b.add j) = some u := by
  obtain ⟨h1, h2, h3⟩ := hr
  intro b hb j u hj
  have hlt : j < l0.length := by have := (List.getElem?_eq_some_iff.1 hj).1; simpa using this
  obtain ⟨ad, e, hc⟩ := h3 (by omega)
  rw [hb] at e
  obtain rfl := Option.some.inj e
  obtain ⟨c, hcl, hk, hcell⟩ := hc j _ (List.getElem?_eq_getElem hlt)
  have hk2 : c = [Value.int .u8 l0[j]] := hk
  have := hcell 0 (Value.int .u8 l0[j]) (by rw [hk2]; rfl)
  rw [show j * (Kd.int .u8).sz + 0 = j by show j * 1 + 0 = j; omega] at this
  rw [this, ← hj]
  simp [hlt]
theorem wire_none (A0 : Option Addr) (l0 : List Int) (w : World) (hr : Kd.C (Kd.int .u8) w A0 l0.length l0) : A0 = none → l0.length = 0 ∧ l0.length = 0 := by
  obtain ⟨h1, h2, h3⟩ := hr
  intro h
  by_cases h0 : 0 < l0.length
  · obtain ⟨ad, e, _⟩ := h3 h0
    rw [h] at e; cases e
  · omega
set_option maxHeartbeats 2000000 in
theorem wire_Put.calls (A0 : Option Addr) (c0 : Nat) (l0 : List Int) (a1 : Int) (r : List Int) (w : World) (hr0 : Kd.C (Kd.int .u8) w A0 l0.length l0) (hc0 : l0.length ≤ c0) (h : wire_Put.f l0 a1 = some r) :
    Calls Tryd.prog 17 #[.slice A0 l0.length c0, .int .u64 a1] w fun e w' => ∃ v0_ : Value, e = .returned (v0_) ∧ Kd.R (Kd.int .u8) 5 w' w.heap.size (fun _ => True) v0_ r ∧ Below w.heap.size w w' := by
  unfold wire_Put.f at h
  by_cases hd : 0 ≤ a1 ∧ a1 < 18446744073709551616 ∧ l0.length + 20 ≤ 140737488355328
  · rw [if_pos hd] at h
    obtain rfl := Option.some.inj h
    obtain ⟨h1, h2, h3⟩ := hd
    have HR := Lib.hid hr0
    obtain ⟨i0, hi, hz0, hz1, hz2⟩ := info_parts info5
    clear h hr0
    go_enter Tryd.func17, Tryd.ntmps17
    go_wp2_with fail
    refine (wire_clip A0 l0.length c0 _ hc0).mono ?_; rintro e w1 ⟨rfl, rfl⟩
    go_wp2_with fail
    go_loopw [1, 5] (fun m v wr => ∃ (k : Nat) (M : Int) (acc : List Int), m = .int .u64 M ∧ k ≤ 9 ∧ acc.length + k = 9 ∧ 0 ≤ M ∧ M < 128 ^ k * 2 ∧ Hid (acc ++ wire_vb k M = wire_vb 9 a1) ∧ Hid (Below w.heap.size w wr) ∧ Hid ((acc = [] ∧ v = .slice A0 l0.length l0.length) ∨ (Kd.R (Kd.int .u8) 5 wr w.heap.size (fun _ => True) v (l0 ++ acc)))) (fun m _ _ => (intOf m).toNat)
    case atStart => exact ⟨9, a1, [], rfl, by omega, by simp, h1, by omega, Lib.hid (by simp), Lib.hid (Below.refl _ _), Lib.hid (.inl ⟨rfl, rfl⟩)⟩
    case round =>
      obtain ⟨k, M, acc, rfl, hk, hka, hM0, hM1, hacc, HB, hv⟩ := hrel
      have hMM : M < 18446744073709551616 := by
        have : (128 : Int) ^ k ≤ 128 ^ 9 := by
          have : (128 : Nat) ^ k ≤ 128 ^ 9 := Nat.pow_le_pow_right (by omega) hk
          exact_mod_cast this
        omega
      have hlen : (l0 ++ acc).length ≤ l0.length + 9 := by simp; omega
      by_cases h128 : 128 ≤ M
      · obtain ⟨k, rfl⟩ : ∃ q, k = q + 1 := by
          cases k with
          | zero => simp at hM1; omega
          | succ q => exact ⟨q, rfl⟩
        have hM2 : M / 128 < 128 ^ k * 2 := by
          rw [Int.pow_succ] at hM1
          omega
        have hnext : Hid ((acc ++ [M % 128 + 128]) ++ wire_vb k (M / 128) = wire_vb 9 a1) := Lib.hid (by
          have := hacc.out
          rw [wire_vb_big _ _ h128] at this
          rw [← this]; simp)
        have hor := wire_or128 (M % 256) (by omega)
        rw [show M % 256 % 128 = M % 128 by omega] at hor
        clear hM1
        rcases hv.out with ⟨rfl, rfl⟩ | hR
        · have hno := wire_none A0 l0 w HR.out
          have hcl : ∀ b, A0 = some b → ∀ j u, (l0.map (Value.int .u8))[j]? = some u → (wr.alloc (.cells #[.int .u8 (M % 128 + 128)] 5)).cell? (b.add j) = some u := fun b hb j u hj => pw_cell_below (HB.out.alloc HB.out.size _) (wire_read A0 l0 w HR.out b hb j u hj)
          have hb1 : l0.length + 1 ≤ maxLen := by unfold maxLen; omega
          have hb2 : (l0.length + 1) * 1 ≤ 140737488355328 := by omega
          clear hv
          go_wp2_with (at_builtin; refine wpList_append_grows _ rfl (.tmp 12) (.tmp 16) 22 rfl 5 i0 (.int .u8 0) 1 1 Tryd.underlying22 hi hz0 hz1 hz2 rfl (by decide) A0 l0.length l0.length (l0.map (Value.int .u8)) rfl hno (by simp) hcl ⟨wr.heap.size, 0, none⟩ 1 1 [.int .u8 (M % 128 + 128)] rfl rfl (cell_one_new _ _ _) (by simp [Value.oneCell']) (by omega) hb1 hb2 ?_; intro v9 w9 ho hg)
          have hw9 : Below w.heap.size w w9 := (HB.out.alloc HB.out.size _).grown hg (by have := HB.out.size; simp; omega) (fun k hk => by cases hk)
          have ho2 := wire_R_of_own (xs := l0 ++ [] ++ [M % 128 + 128]) (by simp) (wire_ownsRow_base (b' := w.heap.size) (by have := HB.out.size; simp; omega) ho)
          have ho3 := Lib.hid ho2
          have hw := Lib.hid hw9
          clear ho ho2 hw9 hg
          go_wp2_with fail
          go_roundw
          case rel => exact ⟨k, M / 128, [] ++ [M % 128 + 128], by go_num, by omega, by simp at hka ⊢; omega, by omega, hM2, hnext, hw, Lib.hid (.inr (by rw [← List.append_assoc]; exact ho3.out))⟩
          case measure => simp [intOf]; omega
        · have hR := Lib.hid hR
          clear hv
          go_wp2_with (at_builtin; refine Kd.R_append (Kd.int .u8) (w0 := w) w.heap.size rfl (.tmp 12) (.tmp 16) 22 5 (.int .u8 0) 1 rfl Tryd.underlying22 info5 rfl (by decide) (by omega) _ (l0 ++ acc) (M % 128 + 128) [.int .u8 (M % 128 + 128)] (fun _ => True) (fun _ => False) rfl rfl ?aP (fun _ hk => hk.elim) ?aF ?aO ?aB ?aS ?aL ?_; (case aP => exact rfl); (case aB => exact HB.out); (case aF => exact (fun _ _ => trivial)); (case aO => exact hR.out); (case aS => exact HB.out.size); (case aL => omega); intro v9 w9 ho hb hg hat)
          have ho3 := Lib.hid ho
          have hw := Lib.hid hb
          clear ho hb hg hat
          go_wp2_with fail
          go_roundw
          case rel => exact ⟨k, M / 128, acc ++ [M % 128 + 128], by go_num, by omega, by simp; omega, by omega, hM2, hnext, hw, Lib.hid (.inr (by rw [← List.append_assoc]; exact ho3.out))⟩
          case measure => simp [intOf]; omega
      · clear hM1
        rcases hv.out with ⟨rfl, rfl⟩ | hR
        · have hno := wire_none A0 l0 w HR.out
          have hcl : ∀ b, A0 = some b → ∀ j u, (l0.map (Value.int .u8))[j]? = some u → (wr.alloc (.cells #[.int .u8 (M)] 5)).cell? (b.add j) = some u := fun b hb j u hj => pw_cell_below (HB.out.alloc HB.out.size _) (wire_read A0 l0 w HR.out b hb j u hj)
          have hb1 : l0.length + 1 ≤ maxLen := by unfold maxLen; omega
          have hb2 : (l0.length + 1) * 1 ≤ 140737488355328 := by omega
          clear hv
          go_wp2_with (at_builtin; refine wpList_append_grows _ rfl (.tmp 18) (.tmp 21) 22 rfl 5 i0 (.int .u8 0) 1 1 Tryd.underlying22 hi hz0 hz1 hz2 rfl (by decide) A0 l0.length l0.length (l0.map (Value.int .u8)) rfl hno (by simp) hcl ⟨wr.heap.size, 0, none⟩ 1 1 [.int .u8 (M)] rfl rfl (cell_one_new _ _ _) (by simp [Value.oneCell']) (by omega) hb1 hb2 ?_; intro v9 w9 ho hg)
          have hw9 : Below w.heap.size w w9 := (HB.out.alloc HB.out.size _).grown hg (by have := HB.out.size; simp; omega) (fun k hk => by cases hk)
          have ho2 := wire_R_of_own (xs := l0 ++ [] ++ [M]) (by simp) (wire_ownsRow_base (b' := w.heap.size) (by have := HB.out.size; simp; omega) ho)
          go_wp2_with fail
          go_ret
          refine ⟨_, rfl, ?_, hw9⟩
          rw [← hacc.out, wire_vb_small _ _ hM0 (by omega), ← List.append_assoc]
          exact ho2
        · have hR := Lib.hid hR
          clear hv
          go_wp2_with (at_builtin; refine Kd.R_append (Kd.int .u8) (w0 := w) w.heap.size rfl (.tmp 18) (.tmp 21) 22 5 (.int .u8 0) 1 rfl Tryd.underlying22 info5 rfl (by decide) (by omega) _ (l0 ++ acc) (M) [.int .u8 (M)] (fun _ => True) (fun _ => False) rfl rfl ?aP (fun _ hk => hk.elim) ?aF ?aO ?aB ?aS ?aL ?_; (case aP => exact rfl); (case aB => exact HB.out); (case aF => exact (fun _ _ => trivial)); (case aO => exact hR.out); (case aS => exact HB.out.size); (case aL => omega); intro v9 w9 ho hb hg hat)
          go_wp2_with fail
          go_ret
          refine ⟨_, rfl, ?_, hb⟩
          rw [← hacc.out, wire_vb_small _ _ hM0 (by omega), ← List.append_assoc]
          exact ho
  · rw [if_neg hd] at h
    exact absurd h (by simp)


-- NOT PRINTED: function 48 (lz_packer_three)

-- NOT PRINTED: function 49 (lz_packer_same)

-- NOT PRINTED: function 30 (lz_packer_best)

-- NOT PRINTED: function 31 (lz_packer_goes)

-- NOT PRINTED: function 32 (lz_packer_literals)

end Go.Proofs.YtigcgdhihaibbaaDoor.PLz
