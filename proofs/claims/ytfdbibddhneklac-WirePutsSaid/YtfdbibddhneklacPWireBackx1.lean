-- by a program of ours (the kit's print, turned, and hand texts beside it), out of the translation; not trusted: Lean checks it
import Derived.Test.YtfdbibddhneklacPWireBackx0
namespace Go.Proofs.Ytfdbibddhneklac.PWireBack
open Go.RowKit Go.Proofs.YtfdbibddhneklacW.PrintWords Go.Proofs.YtfdbibddhneklacW.PrintLast Go.Proofs.YtfdbibddhneklacW.PrintMore
attribute [local go_sem] max2_int min2_int max_two min_two max_three min_three max_four min_four   -- for this text's walks alone
set_option linter.unusedVariables false
set_option linter.unusedSimpArgs false

-- NOT PRINTED: function 50 (slices_Clip_byte_byte)

/-! ### wire_Put: function 27 -/
/-- a number's bytes, seven bits each, at most k + 1 of them -/
def wire_vb : Nat → Int → List Int
  | 0, n => [n % 256]
  | k + 1, n => if 128 ≤ n then (n % 128 + 128) :: wire_vb k (n / 128) else [n % 256]
def wire_Put.f (l0 : List Int) (a1 : Int) : Option (List Int) := if 0 ≤ a1 ∧ a1 < 18446744073709551616 ∧ l0.length + 20 ≤ 140737488355328 then some (l0 ++ wire_vb 9 a1) else none
theorem wire_or128 (x : Int) (h : 0 ≤ x ∧ x < 256) : Go.bits .or .u8 x 128 = x % 128 + 128 := by
  have all : ∀ y : Fin 256, Go.bits .or .u8 ((y.val : Nat) : Int) 128 = ((y.val : Nat) : Int) % 128 + 128 := by decide +kernel
  have := all ⟨x.toNat, by omega⟩
  simp only [Int.toNat_of_nonneg h.1] at this
  exact this
theorem wire_clip (A0 : Option Addr) (n c0 : Nat) (w : World) (h : n ≤ c0) : Calls Try.prog 50 #[.slice A0 n c0] w fun e w' => e = .returned (.slice A0 n n) ∧ w = w' := by
  go_enter Try.func50, Try.ntmps50
  go_wp2
  go_ret
  exact ⟨rfl, rfl⟩
theorem wire_vb_len (k : Nat) (n : Int) : 1 ≤ (wire_vb k n).length ∧ (wire_vb k n).length ≤ k + 1 := by
  induction k generalizing n with
  | zero => simp [wire_vb]
  | succ k ih =>
    simp only [wire_vb]
    split
    · have := ih (n / 128); simp; omega
    · simp
theorem wire_ownsRow_base {W : World} {b b' : Nat} {e : TypeId} {size n : Nat} {v : Value} {xs : List Value} (hb : b' ≤ b) (h : W.ownsRow b e size v n xs) : W.ownsRow b' e size v n xs := by
  obtain ⟨h1, h2⟩ := h
  refine ⟨h1, ?_⟩
  rcases h2 with h2 | ⟨g, cap, cur, e1, hg, r⟩
  · exact .inl h2
  · exact .inr ⟨g, cap, cur, e1, Nat.le_trans hb hg, r⟩
theorem wire_R_of_own {W : World} {b n : Nat} {e : TypeId} {v : Value} {xs : List Int} {vs : List Value} (hv : vs = xs.map (Value.int .u8)) (h : W.ownsRow b e 1 v n vs) : Kd.R (Kd.int .u8) e W b (fun _ => True) v xs := by
  subst hv
  have hn : xs.length = n := by have := h.1; simpa using this
  subst hn
  exact Kd.R_of_own h (fun _ _ => trivial)
theorem wire_vb_big (k : Nat) (n : Int) (h : 128 ≤ n) : wire_vb (k + 1) n = (n % 128 + 128) :: wire_vb k (n / 128) := by rw [wire_vb, if_pos h]
theorem wire_vb_small (k : Nat) (n : Int) (h0 : 0 ≤ n) (h : ¬ 128 ≤ n) : wire_vb k n = [n] := by
  have e : n % 256 = n := by omega
  cases k with
  | zero => rw [wire_vb, e]
  | succ k => rw [wire_vb, if_neg h, e]
/-- what is read, as the laws of append ask it -/
theorem wire_read (A0 : Option Addr) (l0 : List Int) (w : World) (hr : Kd.C (Kd.int .u8) w A0 l0.length l0) : ∀ b, A0 = some b → ∀ j u, (l0.map (Value.int .u8))[j]? = some u → w.cell? (b.add j) = some u := by
  obtain ⟨h1, h2, h3⟩ := hr
  intro b hb j u hj
  have hlt : j < l0.length := by have := (List.getElem?_eq_some_iff.1 hj).1; simpa using this
  obtain ⟨ad, e, hc⟩ := h3 (by omega)
  rw [hb] at e
  obtain rfl := Option.some.inj e
  obtain ⟨c, hcl, hk, hcell⟩ := hc j _ (List.getElem?_eq_getElem hlt)
  have hk2 : c = [Value.int .u8 l0[j]] := hk
  have := hcell 0 (Value.int .u8 l0[j]) (by rw [hk2]; rfl)
  rw [show j * (Kd.int .u8).sz + 0 = j by show j * 1 + 0 = j; omega] at this
  rw [this, ← hj]
  simp [hlt]
theorem wire_none (A0 : Option Addr) (l0 : List Int) (w : World) (hr : Kd.C (Kd.int .u8) w A0 l0.length l0) : A0 = none → l0.length = 0 ∧ l0.length = 0 := by
  obtain ⟨h1, h2, h3⟩ := hr
  intro h
  by_cases h0 : 0 < l0.length
  · obtain ⟨ad, e, _⟩ := h3 h0
    rw [h] at e; cases e
  · omega
set_option maxHeartbeats 2000000 in
theorem wire_Put.calls (A0 : Option Addr) (c0 : Nat) (l0 : List Int) (a1 : Int) (r : List Int) (w : World) (hr0 : Kd.C (Kd.int .u8) w A0 l0.length l0) (hc0 : l0.length ≤ c0) (h : wire_Put.f l0 a1 = some r) :
    Calls Try.prog 27 #[.slice A0 l0.length c0, .int .u64 a1] w fun e w' => ∃ v0_ : Value, e = .returned (v0_) ∧ Kd.R (Kd.int .u8) 5 w' w.heap.size (fun _ => True) v0_ r ∧ Below w.heap.size w w' := by
  unfold wire_Put.f at h
  by_cases hd : 0 ≤ a1 ∧ a1 < 18446744073709551616 ∧ l0.length + 20 ≤ 140737488355328
  · rw [if_pos hd] at h
    obtain rfl := Option.some.inj h
    obtain ⟨h1, h2, h3⟩ := hd
    have HR := Lib.hid hr0
    obtain ⟨i0, hi, hz0, hz1, hz2⟩ := info_parts info5
    clear h hr0
    go_enter Try.func27, Try.ntmps27
    go_wp2_with fail
    refine (wire_clip A0 l0.length c0 _ hc0).mono ?_; rintro e w1 ⟨rfl, rfl⟩
    go_wp2_with fail
    go_loopw [1, 5] (fun m v wr => ∃ (k : Nat) (M : Int) (acc : List Int), m = .int .u64 M ∧ k ≤ 9 ∧ acc.length + k = 9 ∧ 0 ≤ M ∧ M < 128 ^ k * 2 ∧ Hid (acc ++ wire_vb k M = wire_vb 9 a1) ∧ Hid (Below w.heap.size w wr) ∧ Hid ((acc = [] ∧ v = .slice A0 l0.length l0.length) ∨ (Kd.R (Kd.int .u8) 5 wr w.heap.size (fun _ => True) v (l0 ++ acc)))) (fun m _ _ => (intOf m).toNat)
    case atStart => exact ⟨9, a1, [], rfl, by omega, by simp, h1, by omega, Lib.hid (by simp), Lib.hid (Below.refl _ _), Lib.hid (.inl ⟨rfl, rfl⟩)⟩
    case round =>
      obtain ⟨k, M, acc, rfl, hk, hka, hM0, hM1, hacc, HB, hv⟩ := hrel
      have hMM : M < 18446744073709551616 := by
        have : (128 : Int) ^ k ≤ 128 ^ 9 := by
          have : (128 : Nat) ^ k ≤ 128 ^ 9 := Nat.pow_le_pow_right (by omega) hk
          exact_mod_cast this
        omega
      have hlen : (l0 ++ acc).length ≤ l0.length + 9 := by simp; omega
      by_cases h128 : 128 ≤ M
      · obtain ⟨k, rfl⟩ : ∃ q, k = q + 1 := by
          cases k with
          | zero => simp at hM1; omega
          | succ q => exact ⟨q, rfl⟩
        have hM2 : M / 128 < 128 ^ k * 2 := by
          rw [Int.pow_succ] at hM1
          omega
        have hnext : Hid ((acc ++ [M % 128 + 128]) ++ wire_vb k (M / 128) = wire_vb 9 a1) := Lib.hid (by
          have := hacc.out
          rw [wire_vb_big _ _ h128] at this
          rw [← this]; simp)
        have hor := wire_or128 (M % 256) (by omega)
        rw [show M % 256 % 128 = M % 128 by omega] at hor
        clear hM1
        rcases hv.out with ⟨rfl, rfl⟩ | hR
        · have hno := wire_none A0 l0 w HR.out
          have hcl : ∀ b, A0 = some b → ∀ j u, (l0.map (Value.int .u8))[j]? = some u → (wr.alloc (.cells #[.int .u8 (M % 128 + 128)] 5)).cell? (b.add j) = some u := fun b hb j u hj => pw_cell_below (HB.out.alloc HB.out.size _) (wire_read A0 l0 w HR.out b hb j u hj)
          have hb1 : l0.length + 1 ≤ maxLen := by unfold maxLen; omega
          have hb2 : (l0.length + 1) * 1 ≤ 140737488355328 := by omega
          clear hv
          go_wp2_with (at_builtin; refine wpList_append_grows _ rfl (.tmp 12) (.tmp 16) 43 rfl 5 i0 (.int .u8 0) 1 1 Try.underlying43 hi hz0 hz1 hz2 rfl (by decide) A0 l0.length l0.length (l0.map (Value.int .u8)) rfl hno (by simp) hcl ⟨wr.heap.size, 0, none⟩ 1 1 [.int .u8 (M % 128 + 128)] rfl rfl (cell_one_new _ _ _) (by simp [Value.oneCell']) (by omega) hb1 hb2 ?_; intro v9 w9 ho hg)
          have hw9 : Below w.heap.size w w9 := (HB.out.alloc HB.out.size _).grown hg (by have := HB.out.size; simp; omega) (fun k hk => by cases hk)
          have ho2 := wire_R_of_own (xs := l0 ++ [] ++ [M % 128 + 128]) (by simp) (wire_ownsRow_base (b' := w.heap.size) (by have := HB.out.size; simp; omega) ho)
          have ho3 := Lib.hid ho2
          have hw := Lib.hid hw9
          clear ho ho2 hw9 hg
          go_wp2_with fail
          go_roundw
          case rel => exact ⟨k, M / 128, [] ++ [M % 128 + 128], by go_num, by omega, by simp at hka ⊢; omega, by omega, hM2, hnext, hw, Lib.hid (.inr (by rw [← List.append_assoc]; exact ho3.out))⟩
          case measure => simp [intOf]; omega
        · have hR := Lib.hid hR
          clear hv
          go_wp2_with (at_builtin; refine Kd.R_append (Kd.int .u8) (w0 := w) w.heap.size rfl (.tmp 12) (.tmp 16) 43 5 (.int .u8 0) 1 rfl Try.underlying43 info5 rfl (by decide) (by omega) _ (l0 ++ acc) (M % 128 + 128) [.int .u8 (M % 128 + 128)] (fun _ => True) (fun _ => False) rfl rfl ?aP (fun _ hk => hk.elim) ?aF ?aO ?aB ?aS ?aL ?_; (case aP => exact rfl); (case aB => exact HB.out); (case aF => exact (fun _ _ => trivial)); (case aO => exact hR.out); (case aS => exact HB.out.size); (case aL => omega); intro v9 w9 ho hb hg hat)
          have ho3 := Lib.hid ho
          have hw := Lib.hid hb
          clear ho hb hg hat
          go_wp2_with fail
          go_roundw
          case rel => exact ⟨k, M / 128, acc ++ [M % 128 + 128], by go_num, by omega, by simp; omega, by omega, hM2, hnext, hw, Lib.hid (.inr (by rw [← List.append_assoc]; exact ho3.out))⟩
          case measure => simp [intOf]; omega
      · clear hM1
        rcases hv.out with ⟨rfl, rfl⟩ | hR
        · have hno := wire_none A0 l0 w HR.out
          have hcl : ∀ b, A0 = some b → ∀ j u, (l0.map (Value.int .u8))[j]? = some u → (wr.alloc (.cells #[.int .u8 (M)] 5)).cell? (b.add j) = some u := fun b hb j u hj => pw_cell_below (HB.out.alloc HB.out.size _) (wire_read A0 l0 w HR.out b hb j u hj)
          have hb1 : l0.length + 1 ≤ maxLen := by unfold maxLen; omega
          have hb2 : (l0.length + 1) * 1 ≤ 140737488355328 := by omega
          clear hv
          go_wp2_with (at_builtin; refine wpList_append_grows _ rfl (.tmp 18) (.tmp 21) 43 rfl 5 i0 (.int .u8 0) 1 1 Try.underlying43 hi hz0 hz1 hz2 rfl (by decide) A0 l0.length l0.length (l0.map (Value.int .u8)) rfl hno (by simp) hcl ⟨wr.heap.size, 0, none⟩ 1 1 [.int .u8 (M)] rfl rfl (cell_one_new _ _ _) (by simp [Value.oneCell']) (by omega) hb1 hb2 ?_; intro v9 w9 ho hg)
          have hw9 : Below w.heap.size w w9 := (HB.out.alloc HB.out.size _).grown hg (by have := HB.out.size; simp; omega) (fun k hk => by cases hk)
          have ho2 := wire_R_of_own (xs := l0 ++ [] ++ [M]) (by simp) (wire_ownsRow_base (b' := w.heap.size) (by have := HB.out.size; simp; omega) ho)
          go_wp2_with fail
          go_ret
          refine ⟨_, rfl, ?_, hw9⟩
          rw [← hacc.out, wire_vb_small _ _ hM0 (by omega), ← List.append_assoc]
          exact ho2
        · have hR := Lib.hid hR
          clear hv
          go_wp2_with (at_builtin; refine Kd.R_append (Kd.int .u8) (w0 := w) w.heap.size rfl (.tmp 18) (.tmp 21) 43 5 (.int .u8 0) 1 rfl Try.underlying43 info5 rfl (by decide) (by omega) _ (l0 ++ acc) (M) [.int .u8 (M)] (fun _ => True) (fun _ => False) rfl rfl ?aP (fun _ hk => hk.elim) ?aF ?aO ?aB ?aS ?aL ?_; (case aP => exact rfl); (case aB => exact HB.out); (case aF => exact (fun _ _ => trivial)); (case aO => exact hR.out); (case aS => exact HB.out.size); (case aL => omega); intro v9 w9 ho hb hg hat)
          go_wp2_with fail
          go_ret
          refine ⟨_, rfl, ?_, hb⟩
          rw [← hacc.out, wire_vb_small _ _ hM0 (by omega), ← List.append_assoc]
          exact ho
  · rw [if_neg hd] at h
    exact absurd h (by simp)


/-! ### wire_PutSigned: function 28 -/
def wire_PutSigned.f (l0 : List Int) (a1 : Int) : Option (List Int) := (wire_Put.f l0 (Go.bits .xor .u64 (IntKind.u64.wrap (wrap64 (a1 * 2))) (IntKind.u64.wrap (a1 / 9223372036854775808)))).bind fun t101 => (some t101)
set_option maxHeartbeats 8000000 in
set_option maxRecDepth 100000 in
theorem wire_PutSigned.calls (A0 : Option Addr) (c0 : Nat) (l0 : List Int) (a1 : Int) (r : List Int) (w : World) (hr0 : Kd.C (Kd.int .u8) w A0 l0.length l0) (hc0 : l0.length ≤ c0) (h : wire_PutSigned.f l0 a1 = some r) :
    Calls Try.prog 28 #[.slice A0 l0.length c0, .int .i64 a1] w fun e w' => ∃ v0_ : Value, e = .returned (v0_) ∧ Kd.R (Kd.int .u8) 5 w' w.heap.size (fun _ => True) v0_ r ∧ Below w.heap.size w w' := by
  have HR0 := Aside0.mk hr0
  have HC0 := Aside0.mk hc0
  clear hr0 hc0
  have HB := Aside0.mk (Below.refl w.heap.size w)
  have H : ((wire_Put.f l0 (Go.bits .xor .u64 (IntKind.u64.wrap (wrap64 (a1 * 2))) (IntKind.u64.wrap (a1 / 9223372036854775808)))).bind fun t101 => (some t101)) = some r := h
  clear h
  replace H := Option.bind_eq_some_iff.mp H
  obtain ⟨t101, A30, H⟩ := H
  replace H : (some t101) = some r := H
  have A3 := Aside0.mk A30
  clear A30
  obtain rfl := Option.some.inj H
  go_enter Try.func28, Try.ntmps28
  go_wp2_with (first | ((with_reducible refine gate_callee (f := 27) rfl ?_); refine goesL_ (some 13) rfl rfl Try.func27 (by kernel_rfl) rfl #[.slice A0 l0.length c0, .int .u64 (Go.bits .xor .u64 (IntKind.u64.wrap (wrap64 (a1 * 2))) (IntKind.u64.wrap (a1 / 9223372036854775808)))] rfl (by (try simp only [List.map_toArray, List.map_cons, List.map_nil]); first | done | rfl | (simp only [List.length_drop, List.length_take]; rfl)) ?_; (with_reducible refine (wire_Put.calls _ _ l0 (Go.bits .xor .u64 (IntKind.u64.wrap (wrap64 (a1 * 2))) (IntKind.u64.wrap (a1 / 9223372036854775808))) t101 _ ?side1 ?side2 A3.out).mono ?_); (case side1 => repeat (first | exact HR0.out | (with_reducible refine Kd.C_alloc ?_ _) | (with_reducible refine Kd.C_drewN ?_ _) | (with_reducible refine Kd.C_drew ?_))); (case side2 => exact HC0.out); rintro e w4 ⟨v102, rfl, ho0, hb⟩; refine ⟨_, rfl, ?_⟩; have n0_ := Aside0.mk (Kd.R_lower ho0 (below_size (by repeat (first | (with_reducible first | exact HB.out | apply below_alloc | apply pw_below_drewN | apply below_drew1) | exact HB.out)))); have n1_ := Aside0.mk (below_step (by repeat (first | (with_reducible first | exact HB.out | apply below_alloc | apply pw_below_drewN | apply below_drew1) | exact HB.out)) hb); clear HB; have HO103 := n0_; have HB := n1_; clear n0_ n1_; (try clear hb); (try clear hb2); (try clear hk); (try clear hi); (try clear ho0)))
  go_ret
  exact ⟨_, by first | rfl | (simp [errW_none, errW_some] <;> rfl) | (simp [*, errW_none, errW_some] <;> rfl), by (with_reducible repeat (first | apply Kd.R_alloc | apply Kd.R_drewN | apply Kd.R_drew)); exact HO103.out, by repeat (first | (with_reducible first | exact HB.out | apply below_alloc | apply pw_below_drewN | apply below_drew1) | exact HB.out)⟩

/-! ### wire_PutFixed: function 29 -/
def wire_PutFixed.f (l0 : List Int) (a1 : Int) : Option (List Int) := if 0 ≤ a1 ∧ a1 < 4294967296 ∧ l0.length + 20 ≤ 140737488355328 then some (l0 ++ [a1 / 16777216, a1 / 65536 % 256, a1 / 256 % 256, a1 % 256]) else none
set_option maxHeartbeats 1000000 in
theorem wire_PutFixed.calls (A0 : Option Addr) (c0 : Nat) (l0 : List Int) (a1 : Int) (r : List Int) (w : World) (hr0 : Kd.C (Kd.int .u8) w A0 l0.length l0) (hc0 : l0.length ≤ c0) (h : wire_PutFixed.f l0 a1 = some r) :
    Calls Try.prog 29 #[.slice A0 l0.length c0, .int .u32 a1] w fun e w' => ∃ v0_ : Value, e = .returned (v0_) ∧ Kd.R (Kd.int .u8) 5 w' w.heap.size (fun _ => True) v0_ r ∧ Below w.heap.size w w' := by
  unfold wire_PutFixed.f at h
  by_cases hd : 0 ≤ a1 ∧ a1 < 4294967296 ∧ l0.length + 20 ≤ 140737488355328
  · rw [if_pos hd] at h
    obtain rfl := Option.some.inj h
    obtain ⟨h1, h2, h3⟩ := hd
    have HR := Lib.hid hr0
    obtain ⟨i0, hi, hz0, hz1, hz2⟩ := info_parts info5
    have hno := wire_none A0 l0 w HR.out
    have hcl : ∀ b, A0 = some b → ∀ j u, (l0.map (Value.int .u8))[j]? = some u → (w.alloc (.cells #[.int .u8 (a1 / 16777216), .int .u8 (a1 / 65536 % 256), .int .u8 (a1 / 256 % 256), .int .u8 (a1 % 256)] 5)).cell? (b.add j) = some u := fun b hb j u hj => pw_cell_below ((Below.refl _ _).alloc (Nat.le_refl _) _) (wire_read A0 l0 w HR.out b hb j u hj)
    have hb1 : l0.length + 4 ≤ maxLen := by unfold maxLen; omega
    have hb2 : (l0.length + 4) * 1 ≤ 140737488355328 := by omega
    have hnew : ∀ j u, [Value.int .u8 (a1 / 16777216), .int .u8 (a1 / 65536 % 256), .int .u8 (a1 / 256 % 256), .int .u8 (a1 % 256)][j]? = some u → (w.alloc (.cells #[.int .u8 (a1 / 16777216), .int .u8 (a1 / 65536 % 256), .int .u8 (a1 / 256 % 256), .int .u8 (a1 % 256)] 5)).cell? ((⟨w.heap.size, 0, none⟩ : Addr).add j) = some u := by
      intro j u hj
      have hlt : j < 4 := by have := (List.getElem?_eq_some_iff.1 hj).1; simpa using this
      rw [add_plain]
      rw [cell_of_row (w.alloc _) w.heap.size j _ 5 (0, 0) (heap_alloc_new w _)]
      rw [← hj]
      simp
    clear h hr0
    go_enter Try.func29, Try.ntmps29
    go_wp2_with fail
    refine (wire_clip A0 l0.length c0 _ hc0).mono ?_; rintro e w1 ⟨rfl, rfl⟩
    go_wp2_with (at_builtin; refine wpList_append_grows _ rfl (.tmp 6) (.tmp 18) 43 rfl 5 i0 (.int .u8 0) 1 1 Try.underlying43 hi hz0 hz1 hz2 rfl (by decide) A0 l0.length l0.length (l0.map (Value.int .u8)) rfl hno (by simp) hcl ⟨w.heap.size, 0, none⟩ 4 4 [.int .u8 (a1 / 16777216), .int .u8 (a1 / 65536 % 256), .int .u8 (a1 / 256 % 256), .int .u8 (a1 % 256)] rfl rfl hnew (by simp [Value.oneCell']) (by omega) hb1 hb2 ?_; intro v9 w9 ho hg)
    have hw9 : Below w.heap.size w w9 := ((Below.refl w.heap.size w).alloc (Nat.le_refl _) _).grown hg (by simp) (fun k hk => by cases hk)
    have ho2 := wire_R_of_own (xs := l0 ++ [a1 / 16777216, a1 / 65536 % 256, a1 / 256 % 256, a1 % 256]) (by simp) (wire_ownsRow_base (b' := w.heap.size) (by simp) ho)
    clear ho hg
    go_wp2_with fail
    go_ret
    exact ⟨_, rfl, ho2, hw9⟩
  · rw [if_neg hd] at h
    exact absurd h (by simp)


/-! ### wire_PutText: function 30 -/
def wire_PutText.f (l0 : List Int) (a1 : ByteArray) : Option (List Int) := (wire_Put.f l0 (IntKind.u64.wrap ((a1.size : Int)))).bind fun t104 => (if t104.length + a1.size < 140737488355328 then (some (t104 ++ bytesOf a1)) else (none))
set_option maxHeartbeats 8000000 in
set_option maxRecDepth 100000 in
theorem wire_PutText.calls (A0 : Option Addr) (c0 : Nat) (l0 : List Int) (a1 : ByteArray) (r : List Int) (w : World) (hr0 : Kd.C (Kd.int .u8) w A0 l0.length l0) (hc0 : l0.length ≤ c0) (h : wire_PutText.f l0 a1 = some r) :
    Calls Try.prog 30 #[.slice A0 l0.length c0, .string a1] w fun e w' => ∃ v0_ : Value, e = .returned (v0_) ∧ Kd.R (Kd.int .u8) 5 w' w.heap.size (fun _ => True) v0_ r ∧ Below w.heap.size w w' := by
  have HR0 := Aside0.mk hr0
  have HC0 := Aside0.mk hc0
  clear hr0 hc0
  have HB := Aside0.mk (Below.refl w.heap.size w)
  have H : ((wire_Put.f l0 (IntKind.u64.wrap ((a1.size : Int)))).bind fun t104 => (if t104.length + a1.size < 140737488355328 then (some (t104 ++ bytesOf a1)) else (none))) = some r := h
  clear h
  replace H := Option.bind_eq_some_iff.mp H
  obtain ⟨t104, A30, H⟩ := H
  replace H : (if t104.length + a1.size < 140737488355328 then (some (t104 ++ bytesOf a1)) else (none)) = some r := H
  have A3 := Aside0.mk A30
  clear A30
  by_cases c4 : t104.length + a1.size < 140737488355328
  · rw [if_pos c4] at H
    have LMc4 := Aside0.mk c4
    clear c4
    obtain ⟨y107, hy107⟩ : ∃ y_ : List Int, y_ = (t104 ++ bytesOf a1) := ⟨_, rfl⟩
    replace H : (some y107) = some r := by first | (rw [hy107]; with_reducible exact H) | (have H2_ := (Option.bind_some _ _).symm.trans H; rw [hy107]; with_reducible exact H2_) | (have H2_ := (Option.bind_some _ _).symm.trans H; with_reducible exact H2_) | with_reducible exact H | (rw [hy107]; exact H) | exact H
    have Ny107 := Aside0.mk hy107
    clear hy107
    obtain rfl := Option.some.inj H
    go_enter Try.func30, Try.ntmps30
    go_wp2_with (first | ((with_reducible refine gate_callee (f := 27) rfl ?_); refine goesL_ (some 9) rfl rfl Try.func27 (by kernel_rfl) rfl #[.slice A0 l0.length c0, .int .u64 (IntKind.u64.wrap ((a1.size : Int)))] rfl (by (try simp only [List.map_toArray, List.map_cons, List.map_nil]); first | done | rfl | (simp only [List.length_drop, List.length_take]; rfl)) ?_; (with_reducible refine (wire_Put.calls _ _ l0 (IntKind.u64.wrap ((a1.size : Int))) t104 _ ?side1 ?side2 A3.out).mono ?_); (case side1 => repeat (first | exact HR0.out | (with_reducible refine Kd.C_alloc ?_ _) | (with_reducible refine Kd.C_drewN ?_ _) | (with_reducible refine Kd.C_drew ?_))); (case side2 => exact HC0.out); rintro e w5 ⟨v105, rfl, ho0, hb⟩; refine ⟨_, rfl, ?_⟩; have n0_ := Aside0.mk (Kd.R_lower ho0 (below_size (by repeat (first | (with_reducible first | exact HB.out | apply below_alloc | apply pw_below_drewN | apply below_drew1) | exact HB.out)))); have n1_ := Aside0.mk (below_step (by repeat (first | (with_reducible first | exact HB.out | apply below_alloc | apply pw_below_drewN | apply below_drew1) | exact HB.out)) hb); clear HB; have HO106 := n0_; have HB := n1_; clear n0_ n1_; (try clear hb); (try clear hb2); (try clear hk); (try clear hi); (try clear ho0)) | (at_builtin; refine print_append_str (w0 := w) w.heap.size rfl (.tmp 9) _ 43 9 5 rfl Try.underlying43 Try.underlying9 info5 v105 t104 a1 rfl rfl ?aO ?aB ?aS ?aL ?_; (case aB => exact (by repeat (first | (with_reducible first | exact HB.out | apply below_alloc | apply pw_below_drewN | apply below_drew1) | exact HB.out))); (case aO => exact (Kd.own_of_R (by (with_reducible repeat (first | apply Kd.R_alloc | apply Kd.R_drewN | apply Kd.R_drew)); exact HO106.out))); (case aS => exact (below_size (by repeat (first | (with_reducible first | exact HB.out | apply below_alloc | apply pw_below_drewN | apply below_drew1) | exact HB.out)))); (case aL => have := LMc4.out; omega); intro v108 w6 ho0 hb hg; have ho := Kd.R_of_own (h1 := fun _ => rfl) (ok := fun _ => True) ho0 (fun _ _ => trivial); clear ho0; have hat := True.intro; rw [← Ny107.out] at ho; change Kd.R (Kd.int .u8) 5 w6 w.heap.size (fun _ => True) v108 y107 at ho; have n0_ := Aside0.mk (hb); have n1_ := Aside0.mk (ho); clear HB; clear HO106; have HB := n0_; have HO109 := n1_; clear n0_ n1_; clear ho hb hg hat))
    go_ret
    exact ⟨_, by first | rfl | (simp [errW_none, errW_some] <;> rfl) | (simp [*, errW_none, errW_some] <;> rfl), by (with_reducible repeat (first | apply Kd.R_alloc | apply Kd.R_drewN | apply Kd.R_drew)); exact HO109.out, by repeat (first | (with_reducible first | exact HB.out | apply below_alloc | apply pw_below_drewN | apply below_drew1) | exact HB.out)⟩
  · rw [if_neg c4] at H
    exact absurd H (by simp)

/-- A state of type 74 at block g of W; what its slices lead to came in by w0. -/
def IsS74 (w0 W : World) (g : Nat) (f0 : List Int) (f1 : Int) (f2 : Int) : Prop := ∃ A0 c0, W.heap[g]? = some (.cells #[.slice A0 f0.length c0, .int .i64 f1, .int .i64 f2] 74 (0, 0)) ∧ w0.heap.size ≤ g ∧ Kd.C (Kd.int .u8) w0 A0 f0.length f0 ∧ f0.length ≤ c0
theorem IsS74.grown {w0 W : World} {g : Nat} {f0 : List Int} {f1 : Int} {f2 : Int} {W1 : World} {row : Option Nat} (h : IsS74 w0 W g f0 f1 f2) (hw : W.grownBy W1 row) (hne : some g ≠ row) : IsS74 w0 W1 g f0 f1 f2 := by
  obtain ⟨A0, c0, hb, hg, hr0, hq0⟩ := h
  exact ⟨A0, c0, blk_grown hb hw hne, hg, hr0, hq0⟩
theorem IsS74.own_neN {w0 W : World} {g : Nat} {f0 : List Int} {f1 : Int} {f2 : Int} {α : Type} {d : Kd α} {e : Nat} {base : Nat} {ok : Nat → Prop} {v : Value} {xs : List α} (h : IsS74 w0 W g f0 f1 f2) (ho : Kd.N d e W base ok v xs) (ht : e ≠ 74) : some g ≠ v.ownBlock := by
  obtain ⟨A0, c0, hb, hg, hr0, hq0⟩ := h
  exact Kd.N_ne ho hb ht
theorem IsS74.fresh {w0 W : World} {g : Nat} {f0 : List Int} {f1 : Int} {f2 : Int} (h : IsS74 w0 W g f0 f1 f2) : ∀ k, W.heap.size ≤ k → k ≠ g := by
  obtain ⟨A0, c0, hb, hg, hr0, hq0⟩ := h
  exact Kd.freshB hb
theorem IsS74.kept {w0 W : World} {g : Nat} {f0 : List Int} {f1 : Int} {f2 : Int} {W1 : World} {S : Nat → Prop} (h : IsS74 w0 W g f0 f1 f2) (hk : Kept W W1 S) (hne : ¬ S g) : IsS74 w0 W1 g f0 f1 f2 := by
  obtain ⟨A0, c0, hb, hg, hr0, hq0⟩ := h
  exact ⟨A0, c0, blk_kept hb hk hne, hg, hr0, hq0⟩
theorem IsS74.below {w0 W : World} {g : Nat} {f0 : List Int} {f1 : Int} {f2 : Int} {W1 : World} (h : IsS74 w0 W g f0 f1 f2) (hw : Below W.heap.size W W1) : IsS74 w0 W1 g f0 f1 f2 := h.grown (grown_of_below hw none) (by simp)
theorem IsS74.alloc {w0 W : World} {g : Nat} {f0 : List Int} {f1 : Int} {f2 : Int} (h : IsS74 w0 W g f0 f1 f2) (o : Obj) : IsS74 w0 (W.alloc o) g f0 f1 f2 := h.below (below_alloc (Below.refl _ _) o)
theorem IsS74.drewN {w0 W : World} {g : Nat} {f0 : List Int} {f1 : Int} {f2 : Int} (h : IsS74 w0 W g f0 f1 f2) (m : Nat) : IsS74 w0 (W.drewN m) g f0 f1 f2 := h
theorem IsS74.drew {w0 W : World} {g : Nat} {f0 : List Int} {f1 : Int} {f2 : Int} (h : IsS74 w0 W g f0 f1 f2) : IsS74 w0 W.drew g f0 f1 f2 := h
theorem IsS74.at_ {w0 W : World} {g : Nat} {f0 : List Int} {f1 : Int} {f2 : Int} {w' : World} {m : Nat} (hq : W.drewN m = w') (h : IsS74 w0 W g f0 f1 f2) : IsS74 w0 w' g f0 f1 f2 := by subst hq; exact IsS74.drewN h m
theorem IsS74.apart {w0 W : World} {g : Nat} {f0 : List Int} {f1 : Int} {f2 : Int} {α : Type} {d : Kd α} {e : Nat} {base : Nat} {ok : Nat → Prop} {v : Value} {xs : List α} (h : IsS74 w0 W g f0 f1 f2) (ho : d.R e W base ok v xs) (ht : ∀ q, q ∈ e :: d.E → q ≠ 74) : d.R e W base (fun k => ok k ∧ k ≠ g) v xs := by
  obtain ⟨A0, c0, hb, hg, hr0, hq0⟩ := h
  exact Kd.R_types ho hb ht
theorem IsS74.own_ne {w0 W : World} {g : Nat} {f0 : List Int} {f1 : Int} {f2 : Int} {α : Type} {d : Kd α} {e : Nat} {base : Nat} {ok : Nat → Prop} {v : Value} {xs : List α} (h : IsS74 w0 W g f0 f1 f2) (ho : d.R e W base ok v xs) (ht : e ≠ 74) : some g ≠ v.ownBlock := by
  obtain ⟨A0, c0, hb, hg, hr0, hq0⟩ := h
  exact Kd.R_ne ho hb ht
theorem IsS74.apartQ {w0 W : World} {g : Nat} {f0 : List Int} {f1 : Int} {f2 : Int} {α : Type} {d : Kd α} {e : Nat} {base : Nat} {ok : Nat → Prop} {v : Value} {xs : List α} (h : IsS74 w0 W g f0 f1 f2) (ho : d.Q e W base ok v xs) (ht : ∀ q, q ∈ e :: d.E → q ≠ 74) : d.Q e W base (fun k => ok k ∧ k ≠ g) v xs := by
  obtain ⟨A0, c0, hb, hg, hr0, hq0⟩ := h
  exact Kd.Q_types ho hb ht
theorem IsS74.own_neQ {w0 W : World} {g : Nat} {f0 : List Int} {f1 : Int} {f2 : Int} {α : Type} {d : Kd α} {e : Nat} {base : Nat} {ok : Nat → Prop} {v : Value} {xs : List α} (h : IsS74 w0 W g f0 f1 f2) (ho : d.Q e W base ok v xs) (ht : e ≠ 74) : some g ≠ v.ownBlock := by
  obtain ⟨A0, c0, hb, hg, hr0, hq0⟩ := h
  exact Kd.Q_ne ho hb ht
theorem IsS74.apartS {w0 W : World} {g : Nat} {f0 : List Int} {f1 : Int} {f2 : Int} {α : Type} {d : Kd α} {e : Nat} {base : Nat} {ok : Nat → Prop} {v : Value} {xs : List α} (h : IsS74 w0 W g f0 f1 f2) (ho : d.S e W base ok v xs) (ht : ∀ q, q ∈ e :: d.E → q ≠ 74) : d.S e W base (fun k => ok k ∧ k ≠ g) v xs := by
  obtain ⟨A0, c0, hb, hg, hr0, hq0⟩ := h
  exact Kd.S_types ho hb ht
theorem IsS74.own_neS {w0 W : World} {g : Nat} {f0 : List Int} {f1 : Int} {f2 : Int} {α : Type} {d : Kd α} {e : Nat} {base : Nat} {ok : Nat → Prop} {v : Value} {xs : List α} (h : IsS74 w0 W g f0 f1 f2) (ho : d.S e W base ok v xs) (ht : e ≠ 74) : some g ≠ v.ownBlock := by
  obtain ⟨A0, c0, hb, hg, hr0, hq0⟩ := h
  exact Kd.S_ne ho hb ht
theorem IsS74.lt {w0 W : World} {g : Nat} {f0 : List Int} {f1 : Int} {f2 : Int} (h : IsS74 w0 W g f0 f1 f2) : g < W.heap.size := by
  obtain ⟨A0, c0, hb, hg, hr0, hq0⟩ := h
  exact blk_lt hb
theorem IsS74.ge {w0 W : World} {g : Nat} {f0 : List Int} {f1 : Int} {f2 : Int} (h : IsS74 w0 W g f0 f1 f2) : w0.heap.size ≤ g := by
  obtain ⟨A0, c0, hb, hg, hr0, hq0⟩ := h
  exact hg
theorem IsS74.ne_blk {w0 W : World} {g : Nat} {f0 : List Int} {f1 : Int} {f2 : Int} {a : Nat} {cs : Array Value} {t : TypeId} {fr : Nat × Nat} (h : IsS74 w0 W g f0 f1 f2) (hb2 : W.heap[a]? = some (.cells cs t fr)) (ht : t ≠ 74) : g ≠ a := by
  obtain ⟨A0, c0, hb, hg, hr0, hq0⟩ := h
  rintro rfl
  rw [hb] at hb2
  injection hb2 with hb2
  injection hb2 with _ ht2
  exact ht ht2.symm
theorem IsS74.far {w0 W : World} {g : Nat} {f0 : List Int} {f1 : Int} {f2 : Int} {p : Addr} (h : IsS74 w0 W g f0 f1 f2) (hne : g ≠ p.block) (u : Value) : IsS74 w0 (W.setCell p u) g f0 f1 f2 := by
  obtain ⟨A0, c0, hb, hg, hr0, hq0⟩ := h
  exact ⟨A0, c0, blk_far hb hne u, hg, hr0, hq0⟩
theorem cellS74_0 {W : World} {g : Nat} {A0 : Option Addr} {c0 : Nat} {f0 : List Int} {f1 : Int} {f2 : Int} (h : W.heap[g]? = some (.cells #[.slice A0 f0.length c0, .int .i64 f1, .int .i64 f2] 74 (0, 0))) : W.cell? ⟨g, 0, none⟩ = some (.slice A0 f0.length c0) := (blk_cell h 0).trans rfl
theorem cellS74_1 {W : World} {g : Nat} {A0 : Option Addr} {c0 : Nat} {f0 : List Int} {f1 : Int} {f2 : Int} (h : W.heap[g]? = some (.cells #[.slice A0 f0.length c0, .int .i64 f1, .int .i64 f2] 74 (0, 0))) : W.cell? ⟨g, 1, none⟩ = some (.int .i64 f1) := (blk_cell h 1).trans rfl
theorem IsS74.set_1 {w0 W : World} {g : Nat} {f0 : List Int} {f1 : Int} {f2 : Int} (h : IsS74 w0 W g f0 f1 f2) (x : Int) : IsS74 w0 (W.setCell ⟨g, 1, none⟩ (.int .i64 x)) g f0 x f2 := by
  obtain ⟨A0, c0, hb, hg, hr0, hq0⟩ := h
  exact ⟨A0, c0, by simpa using blk_set hb 1 (.int .i64 x), hg, hr0, hq0⟩
theorem cellS74_2 {W : World} {g : Nat} {A0 : Option Addr} {c0 : Nat} {f0 : List Int} {f1 : Int} {f2 : Int} (h : W.heap[g]? = some (.cells #[.slice A0 f0.length c0, .int .i64 f1, .int .i64 f2] 74 (0, 0))) : W.cell? ⟨g, 2, none⟩ = some (.int .i64 f2) := (blk_cell h 2).trans rfl
theorem IsS74.set_2 {w0 W : World} {g : Nat} {f0 : List Int} {f1 : Int} {f2 : Int} (h : IsS74 w0 W g f0 f1 f2) (x : Int) : IsS74 w0 (W.setCell ⟨g, 2, none⟩ (.int .i64 x)) g f0 f1 x := by
  obtain ⟨A0, c0, hb, hg, hr0, hq0⟩ := h
  exact ⟨A0, c0, by simpa using blk_set hb 2 (.int .i64 x), hg, hr0, hq0⟩
theorem IsS74.new (w0 W : World) (A0 : Option Addr) (c0 : Nat) (f0 : List Int) (f1 : Int) (f2 : Int) (hB : Below w0.heap.size w0 W) (hr0 : Kd.C (Kd.int .u8) w0 A0 f0.length f0) (hq0 : f0.length ≤ c0) : IsS74 w0 (W.alloc (.cells #[.slice A0 f0.length c0, .int .i64 f1, .int .i64 f2] 74)) W.heap.size f0 f1 f2 := ⟨A0, c0, by simpa using heap_alloc_new W _, hB.size, hr0, hq0⟩

/-! ### wire_Of: function 34 -/
def wire_Of.f (l0 : List Int) : Option (List Int × Int × Int) := some (l0, 0, 0)
set_option maxHeartbeats 8000000 in
set_option maxRecDepth 100000 in
theorem wire_Of.calls (A0 : Option Addr) (c0 : Nat) (l0 : List Int) (r1 : List Int) (r2 : Int) (r3 : Int) (w0 w : World) (hB : Below w0.heap.size w0 w) (hr0 : Kd.C (Kd.int .u8) w0 A0 l0.length l0) (hc0 : l0.length ≤ c0) (h : wire_Of.f l0 = some (r1, r2, r3)) :
    Calls Try.prog 34 #[.slice A0 l0.length c0] w fun e w' => ∃ g_ : Nat, e = .returned (.pointer (some ⟨g_, 0, none⟩)) ∧ IsS74 w0 w' g_ r1 r2 r3 ∧ Below w0.heap.size w0 w' ∧ Below w.heap.size w w' := by
  have hu74 := Try.underlying74
  have HR0 := Aside0.mk hr0
  have HC0 := Aside0.mk hc0
  clear hr0 hc0
  have HBW := Aside0.mk (Below.refl w.heap.size w)
  have HW0 := Aside0.mk hB.size
  have HB := Aside0.mk hB
  clear hB
  have H : (some (l0, 0, 0)) = some (r1, r2, r3) := h
  clear h
  simp only [Option.some.injEq, Prod.mk.injEq] at H
  obtain ⟨rfl, rfl, rfl⟩ := H
  go_enter Try.func34, Try.ntmps34
  go_wp2_with (first | ((with_reducible refine gate_dst (N := 5) rfl ?_); refine box_event ?hg (N := 5) ?hd (cs := #[.slice A0 l0.length c0, .int .i64 0, .int .i64 0]) (t := 74) ?hr ?_; (case hd => rfl); (case hg => rfl); (case hr => first | (go_simp; done) | (go_simp; rfl)); intro gb110 hg w2 hbox hb; have n0_ := Aside0.mk (below_step HBW.out hb); have n1_ := Aside0.mk (below_step (by repeat (first | (with_reducible first | exact HB.out | apply below_alloc | apply pw_below_drewN | apply below_drew1) | exact HB.out)) hb); have n2_ := Aside0.mk (hbox); have n3_ := Aside0.mk ((by rw [hg]; exact (below_size (by repeat (first | (with_reducible first | exact HBW.out | apply below_alloc | apply pw_below_drewN | apply below_drew1) | exact HBW.out))) : w.heap.size ≤ gb110)); have n4_ := Aside0.mk ((Nat.le_trans HW0.out (by rw [hg]; exact (below_size (by repeat (first | (with_reducible first | exact HBW.out | apply below_alloc | apply pw_below_drewN | apply below_drew1) | exact HBW.out))) : w.heap.size ≤ gb110) : w0.heap.size ≤ gb110)); clear HBW; clear HB; have HBW := n0_; have HB := n1_; have BK110 := n2_; have GW110 := n3_; have GE110 := n4_; clear n0_ n1_ n2_ n3_ n4_; clear hb hbox hg))
  go_ret
  exact ⟨_, rfl, (show IsS74 w0 _ gb110 l0 0 0 from ⟨_, _, by (with_reducible repeat (first | refine blk_drewN ?_ _ | refine blk_drew ?_ | refine blk_alloc ?_ _)); exact BK110.out, GE110.out, HR0.out, HC0.out⟩), by repeat (first | (with_reducible first | exact HB.out | apply below_alloc | apply pw_below_drewN | apply below_drew1 | refine below_set ?_ GE110.out) | exact HB.out), by repeat (first | (with_reducible first | exact HBW.out | apply below_alloc | apply pw_below_drewN | apply below_drew1 | refine below_set ?_ GW110.out) | exact HBW.out)⟩

-- NOT PRINTED: function 51 (wire_Reader_read)

/-! ### wire_Reader_Num: function 35 -/
/-- a varint of bytes from place i on, behind a number n: the number, how many bytes, the error -/
def wire_vr (l : List Int) : Nat → Nat → Int → Int × Int × Int
  | 0, _, _ => (0, 0, 4)
  | k + 1, i, n => if l.length ≤ i then (0, 0, 3) else if (i = 9 ∧ 1 < l.getD i 0) ∨ (0 < i ∧ l.getD i 0 = 0) then (0, 0, 4) else if l.getD i 0 < 128 then (n + l.getD i 0 * 128 ^ i, (i : Int) + 1, 0) else wire_vr l k (i + 1) (n + (l.getD i 0 - 128) * 128 ^ i)
theorem wire_vr_short (l : List Int) (k i : Nat) (n : Int) (h : l.length ≤ i) : wire_vr l (k + 1) i n = (0, 0, 3) := by rw [wire_vr, if_pos h]
theorem wire_vr_form (l : List Int) (k i : Nat) (n : Int) (h : i < l.length) (hf : (i = 9 ∧ 1 < l.getD i 0) ∨ (0 < i ∧ l.getD i 0 = 0)) : wire_vr l (k + 1) i n = (0, 0, 4) := by rw [wire_vr, if_neg (by omega), if_pos hf]
theorem wire_vr_last (l : List Int) (k i : Nat) (n : Int) (h : i < l.length) (hf : ¬ ((i = 9 ∧ 1 < l.getD i 0) ∨ (0 < i ∧ l.getD i 0 = 0))) (hx : l.getD i 0 < 128) : wire_vr l (k + 1) i n = (n + l.getD i 0 * 128 ^ i, (i : Int) + 1, 0) := by rw [wire_vr, if_neg (by omega), if_neg hf, if_pos hx]
theorem wire_vr_next (l : List Int) (k i : Nat) (n : Int) (h : i < l.length) (hf : ¬ ((i = 9 ∧ 1 < l.getD i 0) ∨ (0 < i ∧ l.getD i 0 = 0))) (hx : ¬ l.getD i 0 < 128) : wire_vr l (k + 1) i n = wire_vr l k (i + 1) (n + (l.getD i 0 - 128) * 128 ^ i) := by rw [wire_vr, if_neg (by omega), if_neg hf, if_neg hx]
def wire_bytes (l : List Int) : Bool := l.all fun x => decide (0 ≤ x ∧ x < 256)
def wire_varint.f (l0 : List Int) : Option (Int × Int × Int) := if wire_bytes l0 = true ∧ l0.length ≤ 140737488355328 then some (wire_vr l0 10 0 0) else none
theorem wire_or_nat (a c j : Nat) (ha : a < 128 ^ j) (hj : j ≤ 9) (h : c * 128 ^ j < 18446744073709551616) : bits .or .u64 (a : Int) ((c * 128 ^ j : Nat) : Int) = (a : Int) + (c : Int) * 128 ^ j := by
  have h9 : (128 : Nat) ^ j ≤ 128 ^ 9 := Nat.pow_le_pow_right (by decide) hj
  have h9 : (128 : Nat) ^ j ≤ 9223372036854775808 := h9
  rw [bits_or_u64_nat _ _ (by omega) h, Nat.or_comm]
  have e : (128 : Nat) ^ j = 2 ^ (7 * j) := by rw [Nat.pow_mul]
  rw [e] at ha ⊢
  rw [Nat.mul_comm c, ← Nat.two_pow_add_eq_or_of_lt ha c]
  have e2 : (128 : Int) ^ j = ((2 ^ (7 * j) : Nat) : Int) := by rw [← e]; exact (Int.natCast_pow 128 j).symm
  rw [e2]
  push_cast
  rw [Int.add_comm, Int.mul_comm]
theorem wire_or (m y : Int) (j : Nat) (hm : 0 ≤ m) (hm2 : m < 128 ^ j) (hy : 0 ≤ y) (hj : j ≤ 9) (h : y * 128 ^ j < 18446744073709551616) : bits .or .u64 m (y * 128 ^ j) = m + y * 128 ^ j := by
  obtain ⟨a, rfl⟩ := Int.eq_ofNat_of_zero_le hm
  obtain ⟨c, rfl⟩ := Int.eq_ofNat_of_zero_le hy
  have h1 : a < 128 ^ j := by exact_mod_cast hm2
  have ep : ((c * 128 ^ j : Nat) : Int) = (c : Int) * 128 ^ j := by rw [Int.natCast_mul, Int.natCast_pow]; rfl
  have h2 : c * 128 ^ j < 18446744073709551616 := by rw [← ep] at h; omega
  have := wire_or_nat a c j h1 hj h2
  rw [← this, ep]
theorem wire_or_wrap (m y : Int) (j : Nat) (hm : 0 ≤ m) (hm2 : m < 128 ^ j) (hy : 0 ≤ y) (hy2 : y < 128) (hj : j ≤ 8) : bits .or .u64 m (IntKind.u64.wrap (y * 2 ^ (7 * j))) = m + y * 128 ^ j := by
  have e : (2 : Int) ^ (7 * j) = 128 ^ j := by
    have : (2 : Nat) ^ (7 * j) = 128 ^ j := by rw [Nat.pow_mul]
    exact_mod_cast this
  have h8 : (128 : Nat) ^ j ≤ 128 ^ 8 := Nat.pow_le_pow_right (by decide) hj
  have h8 : (128 : Nat) ^ j ≤ 72057594037927936 := h8
  have ep : ((128 ^ j : Nat) : Int) = (128 : Int) ^ j := Int.natCast_pow 128 j
  have h8 : (128 : Int) ^ j ≤ 72057594037927936 := by omega
  have h0 : 0 ≤ (128 : Int) ^ j := by exact_mod_cast Nat.zero_le (128 ^ j)
  have hb : y * 128 ^ j ≤ 128 * 72057594037927936 := Int.mul_le_mul (by omega) h8 h0 (by decide)
  have h1 : 0 ≤ y * (128 : Int) ^ j := Int.mul_nonneg hy h0
  rw [e, IntKind.wrap_u64, Int.emod_eq_of_lt h1 (by omega)]
  exact wire_or m y j hm hm2 hy (by omega) (by omega)
theorem wire_ends {r1 r2 r3 a b c : Int} {w : World} (h : (r1, r2, r3) = (a, b, c)) : Ending.returned (.tuple #[.int .u64 a, .int .i64 b, .int .i64 c]) = .returned (.tuple #[.int .u64 r1, .int .i64 r2, .int .i64 r3]) ∧ w = w := by
  cases h; exact ⟨rfl, rfl⟩
set_option maxHeartbeats 1000000 in
theorem wire_varint.calls (A0 : Option Addr) (c0 : Nat) (l0 : List Int) (r1 r2 r3 : Int) (w : World) (hr0 : Kd.C (Kd.int .u8) w A0 l0.length l0) (hc0 : l0.length ≤ c0) (h : wire_varint.f l0 = some (r1, r2, r3)) :
    Calls Try.prog 53 #[.slice A0 l0.length c0] w fun e w' => e = .returned (.tuple #[.int .u64 r1, .int .i64 r2, .int .i64 r3]) ∧ w = w' := by
  unfold wire_varint.f at h
  have HD : wire_bytes l0 = true ∧ l0.length ≤ 140737488355328 := by
    by_cases hd : wire_bytes l0 = true ∧ l0.length ≤ 140737488355328
    · exact hd
    · rw [if_neg hd] at h; cases h
  rw [if_pos HD] at h
  have hU : ∀ x ∈ l0, 0 ≤ x ∧ x < 256 := by
    have := HD.1
    unfold wire_bytes at this
    intro x hx
    simpa using List.all_eq_true.1 this x hx
  have hl := HD.2
  clear HD
  have hV := Option.some.inj h
  clear h
  have HR := Lib.hid hr0
  have HU := Lib.hid hU
  have HV0 := Lib.hid hV
  clear hr0 hU hV
  go_enter Try.func53, Try.ntmps53
  go_wp2_with fail
  go_step3
  go_wp2_with fail
  go_step3
  go_wp2_with fail
  go_loop [2, 3, 4, 5, 6] (fun a b c n i => a = .int .u64 0 ∧ b = .int .i64 0 ∧ c = .int .i64 0 ∧ ∃ (j : Nat) (m : Int), j ≤ 9 ∧ j ≤ l0.length ∧ i = .int .i64 j ∧ n = .int .u64 m ∧ 0 ≤ m ∧ m < 128 ^ j ∧ Hid (wire_vr l0 (9 - j + 1) j m = (r1, r2, r3))) (fun _ _ _ _ i => 10 - (intOf i).toNat)
  case atStart => exact ⟨rfl, rfl, rfl, 0, 0, by omega, by omega, rfl, rfl, by omega, by simp, Lib.hid HV0.out⟩
  case round =>
    obtain ⟨rfl, rfl, rfl, j, m, hj, hjl, rfl, rfl, hm, hm2, HV⟩ := hrel
    have hm3 := Lib.hid hm2
    clear hm2
    have hp : (128 : Int) ^ j ≤ 9223372036854775808 := by
      have : (128 : Nat) ^ j ≤ 128 ^ 9 := Nat.pow_le_pow_right (by decide) hj
      have h2 : ((128 ^ j : Nat) : Int) ≤ ((128 ^ 9 : Nat) : Int) := by exact_mod_cast this
      simpa using h2
    have hp := Lib.hid hp
    rcases Nat.lt_or_ge j l0.length with hlen | hlen
    · obtain ⟨b, rfl⟩ : ∃ b, A0 = some b := by
        cases A0 with
        | some b => exact ⟨b, rfl⟩
        | none => have := (wire_none none l0 w HR.out rfl).1; omega
      have hcell := wire_read (some b) l0 w HR.out b rfl j (.int .u8 (l0.getD j 0)) (by simp [hlen])
      have hx := HU.out _ (List.getElem_mem hlen)
      have hg : l0.getD j 0 = l0[j] := by simp [hlen]
      rw [← hg] at hx
      obtain ⟨x, hgx⟩ : ∃ x, l0.getD j 0 = x := ⟨_, rfl⟩
      rw [hgx] at hx hcell
      have HX := Lib.hid hgx
      clear hg hgx
      have hne : ((j : Int) == (l0.length : Int)) = false := by simp; omega
      have hj0 := Lib.hid hj
      rcases (by omega : j = 9 ∨ j = 0 ∨ (0 < j ∧ j < 9)) with hj | hj | ⟨hja, hjb⟩
      · subst hj
        have hcell : w.cell? { block := b.block, off := b.off + 9 } = some (.int .u8 x) := hcell
        rcases (by omega : 1 < x ∨ x = 0 ∨ x = 1) with hxx | rfl | rfl
        · go_wp2_with fail
          go_ret3
          exact wire_ends (HV.out.symm.trans (wire_vr_form _ _ _ _ hlen (by rw [HX.out]; omega)))
        · go_wp2_with fail
          go_ret3
          exact wire_ends (HV.out.symm.trans (wire_vr_form _ _ _ _ hlen (by rw [HX.out]; omega)))
        · go_wp2_with fail
          go_ret3
          have e := HV.out.symm.trans (wire_vr_last _ _ _ _ hlen (by rw [HX.out]; omega) (by rw [HX.out]; omega))
          rw [HX.out, ← wire_or m 1 9 hm hm3.out (by decide) (by decide) (by decide)] at e
          exact wire_ends e
      · subst hj
        have hcell : w.cell? b = some (.int .u8 x) := hcell
        by_cases hxx : x < 128
        · go_wp2_with fail
          go_ret3
          have e := HV.out.symm.trans (wire_vr_last _ _ _ _ hlen (by rw [HX.out]; omega) (by rw [HX.out]; omega))
          have ex : x % 128 = x := by omega
          rw [HX.out, ← wire_or m x 0 hm hm3.out (by omega) (by decide) (by omega), Int.pow_zero, Int.mul_one] at e
          rw [ex]
          exact wire_ends e
        · go_wp2_with fail
          have e := HV.out.symm.trans (wire_vr_next _ _ _ _ hlen (by rw [HX.out]; omega) (by rw [HX.out]; omega))
          have hm4 := hm3.out
          have ex : x % 128 = x - 128 := by omega
          have eo := wire_or m (x % 128) 0 hm hm4 (by omega) (by decide) (by omega)
          rw [Int.pow_zero, Int.mul_one] at eo
          rw [HX.out, Int.pow_zero, Int.mul_one, ← ex, ← eo] at e
          simp at hm4
          refine ⟨⟨rfl, rfl, rfl, 1, _, by omega, by omega, rfl, rfl, by rw [eo]; omega, by rw [eo]; omega, Lib.hid e.symm⟩, by simp [intOf]⟩
      · have hn9 : ¬ (j : Int) = 9 := by omega
        have hn0 : (0 : Int) < j := by omega
        have hcell : w.cell? { block := b.block, off := b.off + j } = some (.int .u8 x) := by rw [show b.add j = ⟨b.block, b.off + j, none⟩ from if_neg (by omega)] at hcell; exact hcell
        rcases (by omega : x = 0 ∨ 128 ≤ x ∨ (x ≠ 0 ∧ x < 128)) with rfl | hxx | ⟨hx0, hxx⟩
        · go_wp2_with fail
          go_ret3
          exact wire_ends (HV.out.symm.trans (wire_vr_form _ _ _ _ hlen (by rw [HX.out]; omega)))
        · go_wp2_with fail
          have e := HV.out.symm.trans (wire_vr_next _ _ _ _ hlen (by rw [HX.out]; omega) (by rw [HX.out]; omega))
          have hm4 := hm3.out
          have ex : x % 128 = x - 128 := by omega
          have eo := wire_or_wrap m (x % 128) j hm hm4 (by omega) (by omega) (by omega)
          rw [HX.out, ← ex, ← eo, show 9 - j = 9 - (j + 1) + 1 by omega] at e
          refine ⟨⟨rfl, rfl, rfl, j + 1, _, by omega, by omega, by go_num, rfl, ?_, ?_, Lib.hid e.symm⟩, by simp [intOf]; omega⟩
          · rw [eo]
            exact Int.add_nonneg hm (Int.mul_nonneg (by omega) (by omega))
          · rw [eo, Int.pow_succ]
            have : (x % 128) * 128 ^ j ≤ 127 * (128 : Int) ^ j := Int.mul_le_mul_of_nonneg_right (by omega) (by omega)
            omega
        · go_wp2_with fail
          go_ret3
          have e := HV.out.symm.trans (wire_vr_last _ _ _ _ hlen (by rw [HX.out]; omega) (by rw [HX.out]; omega))
          have ex : x % 128 = x := by omega
          rw [HX.out, ← wire_or_wrap m x j hm hm3.out (by omega) (by omega) (by omega)] at e
          rw [ex]
          exact wire_ends e
    · obtain rfl : j = l0.length := by omega
      go_wp2_with fail
      go_ret3
      exact wire_ends (HV.out.symm.trans (wire_vr_short _ _ _ _ (Nat.le_refl _)))
set_option maxHeartbeats 1000000 in
theorem wire_rd_gone (g : Nat) (f0 : List Int) (f1 f2 : Int) (w0 w : World) (hI : IsS74 w0 w g f0 f1 f2) (k : FuncId) (caps : Array Value) (h : f2 ≠ 0) :
    Calls Try.prog 51 #[.pointer (some ⟨g, 0, none⟩), .func (.func k) #[] caps] w fun e w' => e = .returned (.tuple #[]) ∧ w' = w := by
  obtain ⟨A0, c0, hb, hg, hr0, hq0⟩ := hI
  have hc0 := cellS74_0 hb
  have hc1 := cellS74_1 hb
  have hc2 := cellS74_2 hb
  clear hb
  go_enter Try.func51, Try.ntmps51
  go_wp2_with fail
  refine bodyPost_ret (results_none rfl _ _ _) rfl ?_
  exact ⟨rfl, rfl⟩
set_option maxHeartbeats 1000000 in
theorem wire_rd (g : Nat) (f0 : List Int) (f1 : Int) (w0 w : World) (hI : IsS74 w0 w g f0 f1 0) (hB : Below w0.heap.size w0 w) (k : FuncId) (hk : ∀ args W, (callFunc k args).run Try.prog W = .ok (.enter k args) W) (caps : Array Value) (n e : Int) (Z : World → Prop)
    (hf : 0 ≤ f1 ∧ f1 ≤ f0.length) (hn : 0 ≤ n ∧ f1 + n ≤ 9223372036854775807)
    (hcl : ∀ (W : World) (A : Option Addr) (c : Nat), W = w.drew → Kd.C (Kd.int .u8) W A (f0.drop f1.toNat).length (f0.drop f1.toNat) → (f0.drop f1.toNat).length ≤ c → Calls Try.prog k (#[.slice A (f0.drop f1.toNat).length c] ++ caps) W fun e' w' => e' = .returned (.tuple #[.int .i64 n, .int .i64 e]) ∧ Z w')
    (hZ : ∀ w', Z w' → w'.heap[g]? = w.heap[g]?) :
    Calls Try.prog 51 #[.pointer (some ⟨g, 0, none⟩), .func (.func k) #[] caps] w fun e' w' => e' = .returned (.tuple #[]) ∧ ∃ w1, Z w1 ∧ w' = if e = 0 then w1.setCell ⟨g, 1, none⟩ (.int .i64 (f1 + n)) else w1.setCell ⟨g, 2, none⟩ (.int .i64 e) := by
  obtain ⟨A0, c0, hb, hg, hr0, hq0⟩ := hI
  have hc0 := cellS74_0 hb
  have hc1 := cellS74_1 hb
  have hc2 := cellS74_2 hb
  have hR := Kd.C_drop (m := f1.toNat) (c := c0) (Kd.C_below hr0 (by apply below_drew1; exact hB)) (by omega) hq0
  rw [show f1.toNat * (Kd.int .u8).sz = f1.toNat by show f1.toNat * 1 = _; omega] at hR
  have hcl := hcl w.drew _ (c0 - f1.toNat) rfl hR (by rw [List.length_drop]; omega)
  rw [List.length_drop] at hcl
  have hkeep : ∀ w', Z w' → w'.cell? ⟨g, 0, none⟩ = some (.slice A0 f0.length c0) ∧ w'.cell? ⟨g, 1, none⟩ = some (.int .i64 f1) := fun w' hz => ⟨cellS74_0 ((hZ w' hz).trans hb), cellS74_1 ((hZ w' hz).trans hb)⟩
  have hfro : ∀ w', Z w' → w'.frozen? ⟨g, 1, none⟩ = false ∧ w'.frozen? ⟨g, 2, none⟩ = false := fun w' hz => ⟨blk_frozen ((hZ w' hz).trans hb) 1, blk_frozen ((hZ w' hz).trans hb) 2⟩
  have hkeep2 : ∀ w', Z w' → w'.cell? ⟨g, 2, none⟩ = some (.int .i64 0) := fun w' hz => cellS74_2 ((hZ w' hz).trans hb)
  by_cases hcc : c0 = f1.toNat
  · rw [if_pos hcc, show c0 - f1.toNat = 0 by omega] at hcl
    have hcl := Lib.hid hcl
    clear hb hR
    go_enter Try.func51, Try.ntmps51
    go_wp2_with fail
    go_region_held3 (fun w' => w'.cell? ⟨g, 0, none⟩ = some (.slice A0 f0.length c0) ∧ w'.cell? ⟨g, 1, none⟩ = some (.int .i64 f1)) (first | exact ⟨hc0, hc1⟩ | exact hkeep _ (by assumption)) (first | (refine hcl.out.mono ?_; rintro e' w1 ⟨rfl, hz⟩))
    have hz := hz
    obtain ⟨k0, k1⟩ := hkeep _ hz
    obtain ⟨fz1, fz2⟩ := hfro _ hz
    have k2 := hkeep2 _ hz
    by_cases he : e = 0
    · subst he
      go_wp2_with fail
      (first | go_end0 | ((try simp only [Exit.inBlock, Exit.then]); refine bodyPost_ret (results_none rfl _ _ _) rfl ?_))
      exact ⟨rfl, w1, hz, by first | rfl | exact (if_pos rfl).symm | simp⟩
    · go_wp2_with fail
      (first | go_end0 | ((try simp only [Exit.inBlock, Exit.then]); refine bodyPost_ret (results_none rfl _ _ _) rfl ?_))
      exact ⟨rfl, w1, hz, by first | rfl | exact (if_neg he).symm | simp [he]⟩
  · rw [if_neg hcc] at hcl
    have hcl := Lib.hid hcl
    clear hb hR
    go_enter Try.func51, Try.ntmps51
    go_wp2_with fail
    go_region_held3 (fun w' => w'.cell? ⟨g, 0, none⟩ = some (.slice A0 f0.length c0) ∧ w'.cell? ⟨g, 1, none⟩ = some (.int .i64 f1)) (first | exact ⟨hc0, hc1⟩ | exact hkeep _ (by assumption)) (first | (refine hcl.out.mono ?_; rintro e' w1 ⟨rfl, hz⟩))
    have hz := hz
    obtain ⟨k0, k1⟩ := hkeep _ hz
    obtain ⟨fz1, fz2⟩ := hfro _ hz
    have k2 := hkeep2 _ hz
    by_cases he : e = 0
    · subst he
      go_wp2_with fail
      (first | go_end0 | ((try simp only [Exit.inBlock, Exit.then]); refine bodyPost_ret (results_none rfl _ _ _) rfl ?_))
      exact ⟨rfl, w1, hz, by first | rfl | exact (if_pos rfl).symm | simp⟩
    · go_wp2_with fail
      (first | go_end0 | ((try simp only [Exit.inBlock, Exit.then]); refine bodyPost_ret (results_none rfl _ _ _) rfl ?_))
      exact ⟨rfl, w1, hz, by first | rfl | exact (if_neg he).symm | simp [he]⟩
theorem wire_res {P : Program} {fn : Func} {p : Tmp} {ty : TypeId} (h : fn.results = #[.cell p ty]) (tmps : Array Value) (w : World) (a : Addr) (v : Value) (d : TypeDesc) (hp : tmps.getD p undef = .pointer (some a)) (hu : P.underlying ty = some d) (hd : (match d with | .struct _ | .array _ _ => true | _ => false) = false) (hc : w.cell? a = some v) : (results fn tmps).run P w = .ok v w := by
  have hp' : tmps[p]?.getD undef = .pointer (some a) := by simpa using hp
  have hA : (isAgg ty).run P w = .ok false w := by
    unfold isAgg
    rw [Sem.run_bind, run_underlying hu]
    cases d <;> simp at hd <;> simp [Result.andThen]
  have hL : (loadVar ty a).run P w = .ok v w := by
    unfold loadVar
    rw [Sem.run_bind, hA]
    simp [Result.andThen, hc]
  simp [results, h, hp', asAddr, hL]
theorem wire_enter {P : Program} {f : FuncId} {fn : Func} {c : Code} (hf : P.funcs[f]? = some fn) (hname : (fn.name == "runtime.NumGoroutine") = false) (hb : fn.body = some c) (args : Array Value) (w : World) :
    (callFunc f args).run P w = .ok (.enter f args) w := by
  have h1 : fn.name ≠ "runtime.NumGoroutine" := by simpa using hname
  simp [callFunc, hf, h1, hb]
theorem wire_c52 (W : World) (A : Option Addr) (c : Nat) (l : List Int) (o : Nat) (r1 r2 r3 : Int) (hr : Kd.C (Kd.int .u8) W A l.length l) (hc : l.length ≤ c) (hf : wire_varint.f l = some (r1, r2, r3)) (x0 : Value) (hcell : W.cell? ⟨o, 0, none⟩ = some x0) (hfr : W.frozen? ⟨o, 0, none⟩ = false) :
    Calls Try.prog 52 #[.slice A l.length c, .pointer (some ⟨o, 0, none⟩)] W fun e w' => e = .returned (.tuple #[.int .i64 r2, .int .i64 r3]) ∧ w' = W.setCell ⟨o, 0, none⟩ (.int .u64 r1) := by
  go_enter Try.func52, Try.ntmps52
  go_wp2_with fail
  refine (wire_varint.calls A c l r1 r2 r3 _ hr hc hf).mono ?_; rintro e w1 ⟨rfl, rfl⟩
  go_wp2_with fail
  go_ret2
  exact ⟨rfl, rfl⟩
theorem wire_keep_far {w W : World} {g o : Nat} {u : Value} (h : KeepBut w W g none) (ho : w.heap.size ≤ o) : KeepBut w (W.setCell ⟨o, 0, none⟩ u) g none :=
  ⟨by have := h.1; simpa using this, fun i hi hg hr => (Below.heap_setCell W ⟨o, 0, none⟩ u i (by show i ≠ o; omega)).trans (h.2 i hi hg hr)⟩
/-- a world behind 'read': o is the block of the result, made since w -/
structure wire_Fin (w0 w W : World) (o g : Nat) (v : Value) (t : Nat) (f0 : List Int) (f1 f2 : Int) : Prop where
  blk : W.heap[o]? = some (.cells #[v] t (0, 0))
  st : IsS74 w0 W g f0 f1 f2
  b0 : Below w0.heap.size w0 W
  kp : KeepBut w W g none
theorem wire_fin {w0 w w1 w2 : World} {o g : Nat} {v : Value} {t : Nat} {f0 : List Int} {f1 n e : Int} (hI : IsS74 w0 w g f0 f1 0) (hB : Below w0.heap.size w0 w) (hb : Below w.heap.size w w1) (ho : w1.heap[o]? = some (.cells #[v] t (0, 0))) (hge : w.heap.size ≤ o)
    (h2 : w2 = if e = 0 then w1.setCell ⟨g, 1, none⟩ (.int .i64 (f1 + n)) else w1.setCell ⟨g, 2, none⟩ (.int .i64 e)) : wire_Fin w0 w w2 o g v t f0 (if e = 0 then f1 + n else f1) e := by
  have hlt := hI.lt
  have hg := hI.ge
  have I1 := hI.below hb
  have B1 := below_then hB hB.size hb
  have K1 := KeepBut.of_below hb g none
  have hne : o ≠ g := by omega
  by_cases he : e = 0
  · subst he
    rw [if_pos rfl] at h2 ⊢
    subst h2
    exact ⟨blk_far ho hne _, I1.set_1 _, below_set B1 hg, K1.set_ 1 _⟩
  · rw [if_neg he] at h2 ⊢
    subst h2
    exact ⟨blk_far ho hne _, I1.set_2 _, below_set B1 hg, K1.set_ 2 _⟩
theorem wire_Fin.set {w0 w W : World} {o g : Nat} {v u : Value} {t : Nat} {f0 : List Int} {f1 f2 : Int} (h : wire_Fin w0 w W o g v t f0 f1 f2) (hge : w.heap.size ≤ o) (h0 : w0.heap.size ≤ o) (hne : g ≠ o) : wire_Fin w0 w (W.setCell ⟨o, 0, none⟩ u) o g u t f0 f1 f2 :=
  ⟨by simpa using blk_set h.blk 0 u, h.st.far hne u, below_set h.b0 h0, wire_keep_far h.kp hge⟩
theorem wire_vr_count (l : List Int) (k i : Nat) (n : Int) : 0 ≤ (wire_vr l k i n).2.1 ∧ (wire_vr l k i n).2.1 ≤ i + k := by
  induction k generalizing i n with
  | zero => simp [wire_vr]
  | succ k ih =>
    rw [wire_vr]
    split
    · simp; omega
    · split
      · simp; omega
      · split
        · simp; omega
        · have := ih (i + 1) (n + (l.getD i 0 - 128) * 128 ^ i)
          omega
theorem wire_varint_count {l : List Int} {r1 r2 r3 : Int} (h : wire_varint.f l = some (r1, r2, r3)) : 0 ≤ r2 ∧ r2 ≤ 10 := by
  unfold wire_varint.f at h
  split at h
  · have := wire_vr_count l 10 0 0
    rw [Option.some.inj h] at this
    simpa using this
  · cases h
/-- the world in which a text's closure is called -/
def wire_W2 (w : World) (a1 : Int) (z : Value) (t : Nat) : World := (w.alloc (.cells #[.int .i64 a1] 3)).alloc (.cells #[z] t)
theorem wire_W2_o (w : World) (a1 : Int) (z : Value) (t : Nat) : (wire_W2 w a1 z t).heap[w.heap.size + 1]? = some (.cells #[z] t (0, 0)) := by
  have := heap_alloc_new (w.alloc (.cells #[.int .i64 a1] 3)) (.cells #[z] t)
  simpa [wire_W2] using this
theorem wire_W2_p (w : World) (a1 : Int) (z : Value) (t : Nat) : (wire_W2 w a1 z t).heap[w.heap.size]? = some (.cells #[.int .i64 a1] 3 (0, 0)) := by
  have h := heap_alloc_new w (.cells #[.int .i64 a1] 3)
  have := blk_alloc h (.cells #[z] t)
  exact this
theorem wire_W2_b (w : World) (a1 : Int) (z : Value) (t : Nat) : Below w.heap.size w (wire_W2 w a1 z t) := below_alloc (below_alloc (Below.refl _ _) _) _
theorem wire_vr_len (l : List Int) (k i : Nat) (n : Int) : (wire_vr l k i n).2.1 ≤ l.length := by
  induction k generalizing i n with
  | zero => simp [wire_vr]
  | succ k ih =>
    rw [wire_vr]
    split
    · simp
    · split
      · simp
      · split
        · simp; omega
        · exact ih _ _
theorem wire_varint_len {l : List Int} {r1 r2 r3 : Int} (h : wire_varint.f l = some (r1, r2, r3)) : r2 ≤ l.length := by
  unfold wire_varint.f at h
  split at h
  · have := wire_vr_len l 10 0 0
    rw [Option.some.inj h] at this
    simpa using this
  · cases h
def wire_Reader_Num.f (s0_0 : List Int) (s0_1 s0_2 : Int) : Option (Int × Int × Int) :=
  if s0_2 = 0 then (if 0 ≤ s0_1 ∧ s0_1 ≤ s0_0.length ∧ s0_0.length ≤ 140737488355328 then (wire_varint.f (s0_0.drop s0_1.toNat)).bind fun v => some (v.1, (if v.2.2 = 0 then s0_1 + v.2.1 else s0_1), v.2.2) else none) else some (0, s0_1, s0_2)
set_option maxHeartbeats 1000000 in
theorem wire_Reader_Num.calls (g : Nat) (s0_0 : List Int) (s0_1 : Int) (s0_2 : Int) (r1 : Int) (r2 : Int) (r3 : Int) (w0 w : World) (hI : IsS74 w0 w g s0_0 s0_1 s0_2) (hB : Below w0.heap.size w0 w) (h : wire_Reader_Num.f s0_0 s0_1 s0_2 = some (r1, r2, r3)) :
    Calls Try.prog 35 #[.pointer (some ⟨g, 0, none⟩)] w fun e w' => e = .returned (.int .u64 r1) ∧ IsS74 w0 w' g s0_0 r2 r3 ∧ Below w0.heap.size w0 w' ∧ KeepBut w w' g none := by
  have ho : (w.alloc (.cells #[.int .u64 0] 44)).heap[w.heap.size]? = some (.cells #[.int .u64 0] 44 (0, 0)) := heap_alloc_new w _
  have hBa : Below w.heap.size w (w.alloc (.cells #[.int .u64 0] 44)) := below_alloc (Below.refl _ _) _
  have h0 := hB.size
  have hne : g ≠ w.heap.size := by have := hI.lt; omega
  unfold wire_Reader_Num.f at h
  by_cases h2 : s0_2 = 0
  · subst h2
    rw [if_pos rfl] at h
    by_cases hd : 0 ≤ s0_1 ∧ s0_1 ≤ s0_0.length ∧ s0_0.length ≤ 140737488355328
    · rw [if_pos hd] at h
      obtain ⟨⟨v, c, e⟩, hv, hr⟩ := Option.bind_eq_some_iff.1 h
      obtain ⟨rfl, hr2, rfl⟩ : v = r1 ∧ (if e = 0 then s0_1 + c else s0_1) = r2 ∧ e = r3 := by simpa using hr
      have hc := wire_varint_count hv
      have RD := wire_rd g s0_0 s0_1 w0 (w.alloc (.cells #[.int .u64 0] 44)) (hI.alloc _) (below_alloc hB _) 52 (fun args W => wire_enter Try.func52 (by rfl) rfl args W) #[.pointer (some ⟨w.heap.size, 0, none⟩)] c e (fun w' => w' = (w.alloc (.cells #[.int .u64 0] 44)).drew.setCell ⟨w.heap.size, 0, none⟩ (.int .u64 v)) ⟨hd.1, hd.2.1⟩ (by omega)
        (fun W A c' hW hC hcc => by subst hW; exact wire_c52 _ A c' _ _ _ _ _ hC hcc hv _ (blk_cell ho 0) (blk_frozen ho 0))
        (fun w' hw => by subst hw; exact Below.heap_setCell _ _ _ _ hne)
      have RD := Lib.hid RD
      clear h hr hv
      go_enter Try.func35, Try.ntmps35
      go_wp2_with fail
      refine RD.out.mono ?_; rintro e' w2 ⟨rfl, w1, hw1, hw2⟩
      have F := wire_fin (o := w.heap.size) (v := .int .u64 v) (t := 44) hI hB (w1 := w1) (by subst hw1; exact below_set (below_drew1 hBa) (Nat.le_refl _)) (by subst hw1; simpa using blk_set (w := (w.alloc (.cells #[.int .u64 0] 44)).drew) ho 0 (.int .u64 v)) (Nat.le_refl _) hw2
      rw [hr2] at F
      clear hw1 hw2 hr2
      have k0 := blk_cell F.blk 0
      have kf := blk_frozen F.blk 0
      have k0 : w2.cell? ⟨w.heap.size, 0, none⟩ = some (.int .u64 v) := k0
      have F2 := F.set (u := .int .u64 v) (Nat.le_refl _) (by omega) hne
      go_wp2_with fail
      refine bodyPost_ret (wire_res rfl _ _ ⟨w.heap.size, 0, none⟩ _ _ rfl Try.underlying44 rfl (blk_cell F2.blk 0)) rfl ?_
      exact ⟨rfl, F2.st, F2.b0, F2.kp⟩
    · rw [if_neg hd] at h
      cases h
  · rw [if_neg h2] at h
    obtain ⟨rfl, rfl, rfl⟩ : 0 = r1 ∧ s0_1 = r2 ∧ s0_2 = r3 := by simpa using h
    have RD := wire_rd_gone g s0_0 s0_1 s0_2 w0 (w.alloc (.cells #[.int .u64 0] 44)) (hI.alloc _) 52 #[.pointer (some ⟨w.heap.size, 0, none⟩)] h2
    have RD := Lib.hid RD
    clear h
    go_enter Try.func35, Try.ntmps35
    go_wp2_with fail
    refine RD.out.mono ?_; rintro e' w2 ⟨rfl, rfl⟩
    have F : wire_Fin w0 w (w.alloc (.cells #[.int .u64 0] 44)) w.heap.size g (.int .u64 0) 44 s0_0 s0_1 s0_2 := ⟨ho, hI.alloc _, below_alloc hB _, KeepBut.of_below hBa g none⟩
    go_wp2_with fail
    refine bodyPost_ret (wire_res rfl _ _ ⟨w.heap.size, 0, none⟩ _ _ rfl Try.underlying44 rfl (blk_cell F.blk 0)) rfl ?_
    exact ⟨rfl, F.st, F.b0, F.kp⟩


end Go.Proofs.Ytfdbibddhneklac.PWireBack
