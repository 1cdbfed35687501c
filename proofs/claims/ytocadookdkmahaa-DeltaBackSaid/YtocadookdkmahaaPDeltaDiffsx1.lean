-- by a program of ours (the kit's print, turned, and hand texts beside it), out of the translation; not trusted: Lean checks it
import Derived.Test.YtocadookdkmahaaPDeltaDiffsx0
namespace Go.Proofs.Ytocadookdkmahaa.PDeltaDiffs
open Go.RowKit Go.Proofs.YtocadookdkmahaaW.PrintWords Go.Proofs.YtocadookdkmahaaW.PrintLast Go.Proofs.YtocadookdkmahaaW.PrintMore
attribute [local go_sem] max2_int min2_int max_two min_two max_three min_three max_four min_four   -- for this text's walks alone
set_option linter.unusedVariables false
set_option linter.unusedSimpArgs false

-- NOT PRINTED: function 39 (slices_Clip_byte_byte)

/-! ### wire_Put: function 17 -/
/-- a number's bytes, seven bits each, at most k + 1 of them -/
def wire_vb : Nat → Int → List Int
  | 0, n => [n % 256]
  | k + 1, n => if 128 ≤ n then (n % 128 + 128) :: wire_vb k (n / 128) else [n % 256]
def wire_Put.f (l0 : List Int) (a1 : Int) : Option (List Int) := if 0 ≤ a1 ∧ a1 < 18446744073709551616 ∧ l0.length + 20 ≤ 140737488355328 then some (l0 ++ wire_vb 9 a1) else none
theorem wire_or128 (x : Int) (h : 0 ≤ x ∧ x < 256) : Go.bits .or .u8 x 128 = x % 128 + 128 := by
  have all : ∀ y : Fin 256, Go.bits .or .u8 ((y.val : Nat) : Int) 128 = ((y.val : Nat) : Int) % 128 + 128 := by decide +kernel
  have := all ⟨x.toNat, by omega⟩
  simp only [Int.toNat_of_nonneg h.1] at this
  exact this
theorem wire_clip (A0 : Option Addr) (n c0 : Nat) (w : World) (h : n ≤ c0) : Calls Try.prog 39 #[.slice A0 n c0] w fun e w' => e = .returned (.slice A0 n n) ∧ w = w' := by
  go_enter Try.func39, Try.ntmps39
  go_wp2
  go_ret
  exact ⟨rfl, rfl⟩
theorem wire_vb_len (k : Nat) (n : Int) : 1 ≤ (wire_vb k n).length ∧ (wire_vb k n).length ≤ k + 1 := by
  induction k generalizing n with
  | zero => simp [wire_vb]
  | succ k ih =>
    simp only [wire_vb]
    split
    · have := ih (n / 128); simp; omega
    · simp
theorem wire_ownsRow_base {W : World} {b b' : Nat} {e : TypeId} {size n : Nat} {v : Value} {xs : List Value} (hb : b' ≤ b) (h : W.ownsRow b e size v n xs) : W.ownsRow b' e size v n xs := by
  obtain ⟨h1, h2⟩ := h
  refine ⟨h1, ?_⟩
  rcases h2 with h2 | ⟨g, cap, cur, e1, hg, r⟩
  · exact .inl h2
  · exact .inr ⟨g, cap, cur, e1, Nat.le_trans hb hg, r⟩
theorem wire_R_of_own {W : World} {b n : Nat} {e : TypeId} {v : Value} {xs : List Int} {vs : List Value} (hv : vs = xs.map (Value.int .u8)) (h : W.ownsRow b e 1 v n vs) : Kd.R (Kd.int .u8) e W b (fun _ => True) v xs := by
  subst hv
  have hn : xs.length = n := by have := h.1; simpa using this
  subst hn
  exact Kd.R_of_own h (fun _ _ => trivial)
theorem wire_vb_big (k : Nat) (n : Int) (h : 128 ≤ n) : wire_vb (k + 1) n = (n % 128 + 128) :: wire_vb k (n / 128) := by rw [wire_vb, if_pos h]
theorem wire_vb_small (k : Nat) (n : Int) (h0 : 0 ≤ n) (h : ¬ 128 ≤ n) : wire_vb k n = [n] := by
  have e : n % 256 = n := by omega
  cases k with
  | zero => rw [wire_vb, e]
  | succ k => rw [wire_vb, if_neg h, e]
/-- what is read, as the laws of append ask it -/
theorem wire_read (A0 : Option Addr) (l0 : List Int) (w : World) (hr : Kd.C (Kd.int .u8) w A0 l0.length l0) : ∀ b, A0 = some b → ∀ j u, (l0.map (Value.int .u8))[j]? = some u → w.cell? (b.add j) = some u := by
  obtain ⟨h1, h2, h3⟩ := hr
  intro b hb j u hj
  have hlt : j < l0.length := by have := (List.getElem?_eq_some_iff.1 hj).1; simpa using this
  obtain ⟨ad, e, hc⟩ := h3 (by omega)
  rw [hb] at e
  obtain rfl := Option.some.inj e
  obtain ⟨c, hcl, hk, hcell⟩ := hc j _ (List.getElem?_eq_getElem hlt)
  have hk2 : c = [Value.int .u8 l0[j]] := hk
  have := hcell 0 (Value.int .u8 l0[j]) (by rw [hk2]; rfl)
  rw [show j * (Kd.int .u8).sz + 0 = j by show j * 1 + 0 = j; omega] at this
  rw [this, ← hj]
  simp [hlt]
theorem wire_none (A0 : Option Addr) (l0 : List Int) (w : World) (hr : Kd.C (Kd.int .u8) w A0 l0.length l0) : A0 = none → l0.length = 0 ∧ l0.length = 0 := by
  obtain ⟨h1, h2, h3⟩ := hr
  intro h
  by_cases h0 : 0 < l0.length
  · obtain ⟨ad, e, _⟩ := h3 h0
    rw [h] at e; cases e
  · omega
set_option maxHeartbeats 2000000 in
theorem wire_Put.calls (A0 : Option Addr) (c0 : Nat) (l0 : List Int) (a1 : Int) (r : List Int) (w : World) (hr0 : Kd.C (Kd.int .u8) w A0 l0.length l0) (hc0 : l0.length ≤ c0) (h : wire_Put.f l0 a1 = some r) :
    Calls Try.prog 17 #[.slice A0 l0.length c0, .int .u64 a1] w fun e w' => ∃ v0_ : Value, e = .returned (v0_) ∧ Kd.R (Kd.int .u8) 5 w' w.heap.size (fun _ => True) v0_ r ∧ Below w.heap.size w w' := by
  unfold wire_Put.f at h
  by_cases hd : 0 ≤ a1 ∧ a1 < 18446744073709551616 ∧ l0.length + 20 ≤ 140737488355328
  · rw [if_pos hd] at h
    obtain rfl := Option.some.inj h
    obtain ⟨h1, h2, h3⟩ := hd
    have HR := Lib.hid hr0
    obtain ⟨i0, hi, hz0, hz1, hz2⟩ := info_parts info5
    clear h hr0
    go_enter Try.func17, Try.ntmps17
    go_wp2_with fail
    refine (wire_clip A0 l0.length c0 _ hc0).mono ?_; rintro e w1 ⟨rfl, rfl⟩
    go_wp2_with fail
    go_loopw [1, 5] (fun m v wr => ∃ (k : Nat) (M : Int) (acc : List Int), m = .int .u64 M ∧ k ≤ 9 ∧ acc.length + k = 9 ∧ 0 ≤ M ∧ M < 128 ^ k * 2 ∧ Hid (acc ++ wire_vb k M = wire_vb 9 a1) ∧ Hid (Below w.heap.size w wr) ∧ Hid ((acc = [] ∧ v = .slice A0 l0.length l0.length) ∨ (Kd.R (Kd.int .u8) 5 wr w.heap.size (fun _ => True) v (l0 ++ acc)))) (fun m _ _ => (intOf m).toNat)
    case atStart => exact ⟨9, a1, [], rfl, by omega, by simp, h1, by omega, Lib.hid (by simp), Lib.hid (Below.refl _ _), Lib.hid (.inl ⟨rfl, rfl⟩)⟩
    case round =>
      obtain ⟨k, M, acc, rfl, hk, hka, hM0, hM1, hacc, HB, hv⟩ := hrel
      have hMM : M < 18446744073709551616 := by
        have : (128 : Int) ^ k ≤ 128 ^ 9 := by
          have : (128 : Nat) ^ k ≤ 128 ^ 9 := Nat.pow_le_pow_right (by omega) hk
          exact_mod_cast this
        omega
      have hlen : (l0 ++ acc).length ≤ l0.length + 9 := by simp; omega
      by_cases h128 : 128 ≤ M
      · obtain ⟨k, rfl⟩ : ∃ q, k = q + 1 := by
          cases k with
          | zero => simp at hM1; omega
          | succ q => exact ⟨q, rfl⟩
        have hM2 : M / 128 < 128 ^ k * 2 := by
          rw [Int.pow_succ] at hM1
          omega
        have hnext : Hid ((acc ++ [M % 128 + 128]) ++ wire_vb k (M / 128) = wire_vb 9 a1) := Lib.hid (by
          have := hacc.out
          rw [wire_vb_big _ _ h128] at this
          rw [← this]; simp)
        have hor := wire_or128 (M % 256) (by omega)
        rw [show M % 256 % 128 = M % 128 by omega] at hor
        clear hM1
        rcases hv.out with ⟨rfl, rfl⟩ | hR
        · have hno := wire_none A0 l0 w HR.out
          have hcl : ∀ b, A0 = some b → ∀ j u, (l0.map (Value.int .u8))[j]? = some u → (wr.alloc (.cells #[.int .u8 (M % 128 + 128)] 5)).cell? (b.add j) = some u := fun b hb j u hj => pw_cell_below (HB.out.alloc HB.out.size _) (wire_read A0 l0 w HR.out b hb j u hj)
          have hb1 : l0.length + 1 ≤ maxLen := by unfold maxLen; omega
          have hb2 : (l0.length + 1) * 1 ≤ 140737488355328 := by omega
          clear hv
          go_wp2_with (at_builtin; refine wpList_append_grows _ rfl (.tmp 12) (.tmp 16) 22 rfl 5 i0 (.int .u8 0) 1 1 Try.underlying22 hi hz0 hz1 hz2 rfl (by decide) A0 l0.length l0.length (l0.map (Value.int .u8)) rfl hno (by simp) hcl ⟨wr.heap.size, 0, none⟩ 1 1 [.int .u8 (M % 128 + 128)] rfl rfl (cell_one_new _ _ _) (by simp [Value.oneCell']) (by omega) hb1 hb2 ?_; intro v9 w9 ho hg)
          have hw9 : Below w.heap.size w w9 := (HB.out.alloc HB.out.size _).grown hg (by have := HB.out.size; simp; omega) (fun k hk => by cases hk)
          have ho2 := wire_R_of_own (xs := l0 ++ [] ++ [M % 128 + 128]) (by simp) (wire_ownsRow_base (b' := w.heap.size) (by have := HB.out.size; simp; omega) ho)
          have ho3 := Lib.hid ho2
          have hw := Lib.hid hw9
          clear ho ho2 hw9 hg
          go_wp2_with fail
          go_roundw
          case rel => exact ⟨k, M / 128, [] ++ [M % 128 + 128], by go_num, by omega, by simp at hka ⊢; omega, by omega, hM2, hnext, hw, Lib.hid (.inr (by rw [← List.append_assoc]; exact ho3.out))⟩
          case measure => simp [intOf]; omega
        · have hR := Lib.hid hR
          clear hv
          go_wp2_with (at_builtin; refine Kd.R_append (Kd.int .u8) (w0 := w) w.heap.size rfl (.tmp 12) (.tmp 16) 22 5 (.int .u8 0) 1 rfl Try.underlying22 info5 rfl (by decide) (by omega) _ (l0 ++ acc) (M % 128 + 128) [.int .u8 (M % 128 + 128)] (fun _ => True) (fun _ => False) rfl rfl ?aP (fun _ hk => hk.elim) ?aF ?aO ?aB ?aS ?aL ?_; (case aP => exact rfl); (case aB => exact HB.out); (case aF => exact (fun _ _ => trivial)); (case aO => exact hR.out); (case aS => exact HB.out.size); (case aL => omega); intro v9 w9 ho hb hg hat)
          have ho3 := Lib.hid ho
          have hw := Lib.hid hb
          clear ho hb hg hat
          go_wp2_with fail
          go_roundw
          case rel => exact ⟨k, M / 128, acc ++ [M % 128 + 128], by go_num, by omega, by simp; omega, by omega, hM2, hnext, hw, Lib.hid (.inr (by rw [← List.append_assoc]; exact ho3.out))⟩
          case measure => simp [intOf]; omega
      · clear hM1
        rcases hv.out with ⟨rfl, rfl⟩ | hR
        · have hno := wire_none A0 l0 w HR.out
          have hcl : ∀ b, A0 = some b → ∀ j u, (l0.map (Value.int .u8))[j]? = some u → (wr.alloc (.cells #[.int .u8 (M)] 5)).cell? (b.add j) = some u := fun b hb j u hj => pw_cell_below (HB.out.alloc HB.out.size _) (wire_read A0 l0 w HR.out b hb j u hj)
          have hb1 : l0.length + 1 ≤ maxLen := by unfold maxLen; omega
          have hb2 : (l0.length + 1) * 1 ≤ 140737488355328 := by omega
          clear hv
          go_wp2_with (at_builtin; refine wpList_append_grows _ rfl (.tmp 18) (.tmp 21) 22 rfl 5 i0 (.int .u8 0) 1 1 Try.underlying22 hi hz0 hz1 hz2 rfl (by decide) A0 l0.length l0.length (l0.map (Value.int .u8)) rfl hno (by simp) hcl ⟨wr.heap.size, 0, none⟩ 1 1 [.int .u8 (M)] rfl rfl (cell_one_new _ _ _) (by simp [Value.oneCell']) (by omega) hb1 hb2 ?_; intro v9 w9 ho hg)
          have hw9 : Below w.heap.size w w9 := (HB.out.alloc HB.out.size _).grown hg (by have := HB.out.size; simp; omega) (fun k hk => by cases hk)
          have ho2 := wire_R_of_own (xs := l0 ++ [] ++ [M]) (by simp) (wire_ownsRow_base (b' := w.heap.size) (by have := HB.out.size; simp; omega) ho)
          go_wp2_with fail
          go_ret
          refine ⟨_, rfl, ?_, hw9⟩
          rw [← hacc.out, wire_vb_small _ _ hM0 (by omega), ← List.append_assoc]
          exact ho2
        · have hR := Lib.hid hR
          clear hv
          go_wp2_with (at_builtin; refine Kd.R_append (Kd.int .u8) (w0 := w) w.heap.size rfl (.tmp 18) (.tmp 21) 22 5 (.int .u8 0) 1 rfl Try.underlying22 info5 rfl (by decide) (by omega) _ (l0 ++ acc) (M) [.int .u8 (M)] (fun _ => True) (fun _ => False) rfl rfl ?aP (fun _ hk => hk.elim) ?aF ?aO ?aB ?aS ?aL ?_; (case aP => exact rfl); (case aB => exact HB.out); (case aF => exact (fun _ _ => trivial)); (case aO => exact hR.out); (case aS => exact HB.out.size); (case aL => omega); intro v9 w9 ho hb hg hat)
          go_wp2_with fail
          go_ret
          refine ⟨_, rfl, ?_, hb⟩
          rw [← hacc.out, wire_vb_small _ _ hM0 (by omega), ← List.append_assoc]
          exact ho
  · rw [if_neg hd] at h
    exact absurd h (by simp)


-- NOT PRINTED: function 18 (delta_runs)

/-! ### slices_Clone_byte_byte: function 43 -/
theorem clone_C_none {W : World} {l : List Int} (h : Kd.C (Kd.int .u8) W none l.length l) : l = [] := by
  have := (wire_none none l W h rfl).1
  exact List.length_eq_zero_iff.1 this
set_option maxHeartbeats 1000000 in
theorem clone_in (A : Option Addr) (c : Nat) (l : List Int) (w : World) (hr : Kd.C (Kd.int .u8) w A l.length l) (hc : l.length ≤ c) (hl : l.length ≤ 140737488355328) :
    Calls Try.prog 43 #[.slice A l.length c] w fun e w' => ∃ v : Value, e = .returned v ∧ Kd.R (Kd.int .u8) 5 w' w.heap.size (fun _ => True) v l ∧ Below w.heap.size w w' := by
  have heq := fun A => run_eql_slice_nil (P := Try.prog) w 22 5 A l.length c Try.underlying22
  have heq0 := heq none
  cases A with
  | none =>
    have hz := clone_C_none hr
    have hn : l.length = 0 := by rw [hz]; rfl
    clear hr heq
    rw [hn] at hc heq0 ⊢
    go_enter Try.func43, Try.ntmps43
    go_wp2_with fail
    go_ret
    rw [hz]
    exact ⟨_, rfl, Kd.R_nil _ _ _ _ _, Below.refl _ _⟩
  | some b =>
    have HR := Lib.hid hr
    have heq := heq (some b)
    clear hr heq0
    have hh : (w.alloc (.cells #[] 5)).heap[w.heap.size]? = some (.cells #[] 5 (0, 0)) := heap_alloc_new w _
    have hBa : Below w.heap.size w (w.alloc (.cells #[] 5)) := below_alloc (Below.refl _ _) _
    have HC : Kd.C (Kd.int .u8) (w.alloc (.cells #[] 5)) (some b) l.length l := Kd.C_below HR.out hBa
    have HO : Kd.R (Kd.int .u8) 5 (w.alloc (.cells #[] 5)) w.heap.size (fun _ => True) (.slice (some ⟨w.heap.size, 0, none⟩) 0 0) [] := wire_R_of_own (n := 0) (xs := []) rfl ⟨rfl, .inr ⟨w.heap.size, 0, #[], rfl, Nat.le_refl _, hh, Nat.le_refl _, Nat.zero_le _, rfl, rfl⟩⟩
    have HS := hBa.size
    have HC := Lib.hid HC
    have HO := Lib.hid HO
    have HB := Lib.hid hBa
    clear hh hBa HR
    go_enter Try.func43, Try.ntmps43
    go_wp2_with (at_builtin; refine Kd.R_append_row (Value.int .u8) (0 : Int) (w0 := w) w.heap.size rfl (.tmp 5) (.tmp 6) 22 5 (.int .u8 0) 1 rfl Try.underlying22 info5 rfl (by decide) _ [] l (some b) l.length c (fun _ => True) rfl rfl (fun _ _ => trivial) HO.out HC.out HB.out HS (by simp; omega) ?_; intro v1 w1 ho hb hg hat)
    go_wp2_with fail
    go_ret
    exact ⟨_, rfl, ho, hb⟩
def slices_Clone_byte_byte.f (l0 : List Int) : Option (List Int) := if l0.length ≤ 140737488355328 then some l0 else none
theorem slices_Clone_byte_byte.calls (A0 : Option Addr) (c0 : Nat) (l0 : List Int) (r : List Int) (w : World) (hr0 : Kd.C (Kd.int .u8) w A0 l0.length l0) (hc0 : l0.length ≤ c0) (h : slices_Clone_byte_byte.f l0 = some r) :
    Calls Try.prog 43 #[.slice A0 l0.length c0] w fun e w' => ∃ v0_ : Value, e = .returned (v0_) ∧ Kd.R (Kd.int .u8) 5 w' w.heap.size (fun _ => True) v0_ r ∧ Below w.heap.size w w' := by
  unfold slices_Clone_byte_byte.f at h
  by_cases hd : l0.length ≤ 140737488355328
  · rw [if_pos hd] at h
    obtain rfl := Option.some.inj h
    exact clone_in A0 c0 l0 w hr0 hc0 hd
  · rw [if_neg hd] at h
    exact absurd h (by simp)


/-! ### delta_mix: function 19 -/
def delta_mix.l0 : Nat → List Int → List Int → Int → Int → Option (List Int)
  | 0, _, _, _, _ => none
  | k + 1, x0, x5, x13, x14 => if x14 < x13 then (if 0 ≤ x14 then (if x14 < (x5.length : Int) then (if x14 < (x0.length : Int) then (delta_mix.l0 k x0 (x5.set (x14 : Int).toNat (Go.bits .xor .u8 (rd x5 x14) (rd x0 x14))) x13 (wrap64 (x14 + 1))) else (none)) else (none)) else (none)) else (some x5)
def delta_mix.f (k : Nat) (l0 : List Int) (l1 : List Int) : Option (List Int) := (slices_Clone_byte_byte.f l1).bind fun t101 => (delta_mix.l0 k l0 t101 (mn (l0.length : Int) (l1.length : Int)) 0)
theorem delta_mix.mono_l : ∀ k, (∀ y0 y1 y2 y3, LeO (delta_mix.l0 k y0 y1 y2 y3) (delta_mix.l0 (k + 1) y0 y1 y2 y3))
  | 0 => fun _ _ _ _ r h => by simp [delta_mix.l0] at h
  | k + 1 => by
    have ih0 := delta_mix.mono_l k
    · intro y0 y1 y2 y3
      unfold delta_mix.l0
      repeat' first
      | (with_reducible exact ih0 _ _ _ _)
      | (with_reducible exact LeO.refl _)
      | (with_reducible exact LeO.none _)
      | (with_reducible refine LeO.ite ?_ ?_)
      | (with_reducible refine LeO.bind ?_ (fun _ => ?_))
      | exact ih0 _ _ _ _
      | exact LeO.none _
      | refine LeO.ite ?_ ?_
      | refine LeO.bind ?_ (fun _ => ?_)
theorem delta_mix.mono : ∀ a0 a1 k, LeO (delta_mix.f k a0 a1) (delta_mix.f (k + 1) a0 a1) := by
  intro a0 a1 k
  have ih0 := delta_mix.mono_l k
  unfold delta_mix.f
  repeat' first
      | (with_reducible exact ih0 _ _ _ _)
      | (with_reducible exact LeO.refl _)
      | (with_reducible exact LeO.none _)
      | (with_reducible refine LeO.ite ?_ ?_)
      | (with_reducible refine LeO.bind ?_ (fun _ => ?_))
      | exact ih0 _ _ _ _
      | exact LeO.none _
      | refine LeO.ite ?_ ?_
      | refine LeO.bind ?_ (fun _ => ?_)
def delta_mix.T5 : Bool × List (List Nat × List Nat) := (true, [([], []), ([], []), ([0, 1], [0, 1]), ([2], [2]), ([], []), ([], []), ([4, 5], [4, 5]), ([6], [6]), ([3, 7], [3, 7]), ([0, 1, 0, 1, 2, 3, 4, 5, 6, 7, 8], [0, 1]), ([9, 8, 0, 1, 2, 3, 4, 5, 6, 7, 8], [8, 9])])
def delta_mix.B5 : List Nat := [0, 0, 3, 7, 0, 0, 48, 112, 255, 511, 1023]
theorem delta_mix.tab5 : rtab .any (opsOf Try.f19 5) = delta_mix.T5 := by kernel_rfl
theorem delta_mix.bits5 : waitsOk delta_mix.T5.2 delta_mix.B5 = true := by kernel_rfl
set_option maxHeartbeats 8000000 in
set_option maxRecDepth 100000 in
theorem delta_mix.calls (k : Nat) (A0 : Option Addr) (c0 : Nat) (l0 : List Int) (A1 : Option Addr) (c1 : Nat) (l1 : List Int) (r : List Int) (w : World) (hr0 : Kd.C (Kd.int .u8) w A0 l0.length l0) (hc0 : l0.length ≤ c0) (hr1 : Kd.C (Kd.int .u8) w A1 l1.length l1) (hc1 : l1.length ≤ c1) (h : delta_mix.f k l0 l1 = some r) :
    Calls Try.prog 19 #[.slice A0 l0.length c0, .slice A1 l1.length c1] w fun e w' => ∃ v0_ : Value, e = .returned (v0_) ∧ Kd.R (Kd.int .u8) 5 w' w.heap.size (fun _ => True) v0_ r ∧ Below w.heap.size w w' := by
  have HR0 := Aside0.mk hr0
  have HC0 := Aside0.mk hc0
  clear hr0 hc0
  have HR1 := Aside0.mk hr1
  have HC1 := Aside0.mk hc1
  clear hr1 hc1
  have HB := Aside0.mk (Below.refl w.heap.size w)
  have H : ((slices_Clone_byte_byte.f l1).bind fun t101 => (delta_mix.l0 k l0 t101 (mn (l0.length : Int) (l1.length : Int)) 0)) = some r := h
  clear h
  replace H := Option.bind_eq_some_iff.mp H
  obtain ⟨t101, A30, H⟩ := H
  replace H : (delta_mix.l0 k l0 t101 (mn (l0.length : Int) (l1.length : Int)) 0) = some r := H
  have A3 := Aside0.mk A30
  clear A30
  obtain ⟨ji4, hji4⟩ : ∃ j_ : Int, (mn (l0.length : Int) (l1.length : Int)) = j_ := ⟨_, rfl⟩
  replace H : (delta_mix.l0 k l0 t101 ji4 0) = some r := by first | (rw [hji4] at H; exact H) | (simp only [hji4] at H ⊢; exact H)
  (try rw [hji4] at A3)
  (try (have hji4l : 0 ≤ ji4 := by (rw [← hji4]; unfold mn; (repeat' split) <;> omega)))
  (try (have hji4m : 0 ≤ ji4 := by omega))
  have hji4_ : (if (l1.length : Int) < (l0.length : Int) then (l1.length : Int) else (l0.length : Int)) = ji4 := hji4
  have hji4n : (if l1.length < l0.length then (l1.length : Int) else (l0.length : Int)) = ji4 := by rw [← hji4_]; simp only [Int.ofNat_lt]
  have H' := Aside0.mk H
  clear H
  go_enter Try.func19, Try.ntmps19
  go_wp2_with (first | ((with_reducible refine gate_callee (f := 43) rfl ?_); refine goesL_ (some 8) rfl rfl Try.func43 (by kernel_rfl) rfl #[.slice A1 l1.length c1] rfl (by (try simp only [List.map_toArray, List.map_cons, List.map_nil]); first | done | rfl | (simp only [List.length_drop, List.length_take]; rfl)) ?_; (with_reducible refine (slices_Clone_byte_byte.calls _ _ l1 t101 _ ?side1 ?side2 A3.out).mono ?_); (case side1 => repeat (first | exact HR1.out | (with_reducible refine Kd.C_alloc ?_ _) | (with_reducible refine Kd.C_drewN ?_ _) | (with_reducible refine Kd.C_drew ?_))); (case side2 => exact HC1.out); rintro e w5 ⟨v102, rfl, ho0, hb⟩; refine ⟨_, rfl, ?_⟩; have n0_ := Aside0.mk (Kd.R_lower ho0 (below_size (by repeat (first | (with_reducible first | exact HB.out | apply below_alloc | apply pw_below_drewN | apply below_drew1) | exact HB.out)))); have n1_ := Aside0.mk (below_step (by repeat (first | (with_reducible first | exact HB.out | apply below_alloc | apply pw_below_drewN | apply below_drew1) | exact HB.out)) hb); clear HB; have HO103 := n0_; have HB := n1_; clear n0_ n1_; (try clear hb); (try clear hb2); (try clear hk); (try clear hi); (try clear ho0)))
  go_loopg [14] k (fun kq v14 w' => ∃ (x5_1 : List Int) (x14_1 : Int), v14 = .int .i64 x14_1 ∧ Aside0 (delta_mix.l0 kq l0 x5_1 ji4 x14_1 = some r) ∧ Aside0 (kq ≤ k) ∧ Aside0 (Kd.R (Kd.int .u8) 5 w' w.heap.size (fun _ => True) v102 x5_1) ∧ Aside0 (Below w.heap.size w w'))
  case atStart => exact ⟨(t101), (0), (by first | rfl | (simp; done) | (simp [*]; done)), H', ⟨Nat.le_refl _⟩, ⟨by (with_reducible repeat (first | apply Kd.R_alloc | apply Kd.R_drewN | apply Kd.R_drew)); exact HO103.out⟩, ⟨by repeat (first | (with_reducible first | exact HB.out | apply below_alloc | apply pw_below_drewN | apply below_drew1) | exact HB.out)⟩⟩
  case round =>
    clear H'
    try clear c1
    try clear p2
    try clear c4
    obtain ⟨x5_1, x14_1, rfl, HA, HK1, HO_5, HB⟩ := hrel
    cases gk with
    | zero => exact absurd HA.out (by simp [delta_mix.l0])
    | succ k1 =>
      have H := HA.out
      clear HA
      simp only [delta_mix.l0] at H
      by_cases c6 : x14_1 < ji4
      · rw [if_pos c6] at H
        have c6b0 : decide (x14_1 < ji4) = true := decide_eq_true c6
        clear c6
        by_cases c7 : 0 ≤ x14_1
        · rw [if_pos c7] at H
          have c7b0 : decide (0 ≤ x14_1) = true := decide_eq_true c7
          clear c7
          by_cases c8 : x14_1 < (x5_1.length : Int)
          · rw [if_pos c8] at H
            have c8b0 : decide (x14_1 < (x5_1.length : Int)) = true := decide_eq_true c8
            clear c8
            by_cases c9 : x14_1 < (l0.length : Int)
            · rw [if_pos c9] at H
              have c9b0 : decide (x14_1 < (l0.length : Int)) = true := decide_eq_true c9
              clear c9
              obtain ⟨y106, hy106⟩ : ∃ y_ : List Int, y_ = (x5_1.set (x14_1 : Int).toNat (Go.bits .xor .u8 (rd x5_1 x14_1) (rd l0 x14_1))) := ⟨_, rfl⟩
              replace H : (delta_mix.l0 k1 l0 y106 ji4 (wrap64 (x14_1 + 1))) = some r := by first | (rw [hy106]; with_reducible exact H) | (have H2_ := (Option.bind_some _ _).symm.trans H; rw [hy106]; with_reducible exact H2_) | (have H2_ := (Option.bind_some _ _).symm.trans H; with_reducible exact H2_) | with_reducible exact H | (rw [hy106]; exact H) | exact H
              have Ny106 := Aside0.mk hy106
              clear hy106
              have H' := Aside0.mk H
              clear H
              try go_wp2
              have n0_ := Aside0.mk (Kd.R_drew HO_5.out)
              have n1_ := Aside0.mk (below_drew1 HB.out)
              clear HO_5
              clear HB
              have HO_5 := n0_
              have HB := n1_
              clear n0_ n1_
              obtain ⟨Ao12, co12, eo12⟩ := Kd.R_slice HO_5.out
              (first | subst eo12 | (injection eo12 with f1_ f2_ f3_; have f4_ := f1_.symm; have f5_ := f3_.symm; clear f1_ f2_ f3_; subst f4_; subst f5_))
              have p104 : 0 ≤ (x14_1 : Int) := of_decide_eq_true (by first | (with_reducible assumption) | assumption)
              have q104 : x14_1 < (x5_1.length : Int) := of_decide_eq_true (by first | (with_reducible assumption) | assumption)
              obtain ⟨ad104, e104, hx104_0⟩ := Kd.at_int (Kd.R_reads' HO_5.out).2.2 x14_1 p104 q104
              cases e104
              replace p104 := eq_true p104
              replace q104 := eq_true q104
              have p105 : 0 ≤ (x14_1 : Int) := of_decide_eq_true (by first | (with_reducible assumption) | assumption)
              have q105 : x14_1 < (l0.length : Int) := of_decide_eq_true (by first | (with_reducible assumption) | assumption)
              obtain ⟨ad105, e105, hx105_0⟩ := Kd.at_int HR0.out x14_1 p105 q105
              have hw105_0 := hx105_0
              cases e105
              replace hx105_0 := (HB.out.cell (World.block_lt_of_cell? w _ hx105_0)).trans hx105_0
              replace p105 := eq_true p105
              replace q105 := eq_true q105
              have p10 : 0 ≤ (x14_1 : Int) := of_decide_eq_true (by first | (with_reducible assumption) | assumption)
              have q10 : (x14_1 : Int) < ((x5_1.length : Int) : Int) := of_decide_eq_true (by first | (with_reducible assumption) | assumption)
              obtain ⟨go10, co10, eo10, gb10, gl10, cl10, HG10⟩ := Kd.R_form HO_5.out (by omega)
              (first | cases eo10 | (injection eo10 with ea_ en_ ec_; (first | subst ea_ | (injection ea_ with ea_; subst ea_)); subst ec_; clear en_))
              have GB10 := Aside0.mk gb10
              have GG10 := Aside0.mk HG10
              clear gb10 gl10 HG10
              (first | simp only [add_plain] at hx104_0 | skip)
              obtain ⟨hx10_0, hf10_0⟩ := Kd.R_celln 0 HO_5.out (x14_1 : Int) p10 q10
              replace p10 := eq_true p10
              replace q10 := eq_true q10
              have HP13 := Kd.R_putn HO_5.out (x14_1 : Int) (Go.bits .xor .u8 (rd x5_1 x14_1) (rd l0 x14_1))
              rw [← Ny106.out] at HP13
              have HQ13 := Aside0.mk HP13
              clear HP13
              refine start_ (n := 11) (S := fun w' => w'.cell? ⟨go10, (x14_1).toNat, none⟩ = some (.int .u8 (rd x5_1 x14_1)) ∧ w'.cell? (ad105.add (x14_1).toNat) = some (.int .u8 (rd l0 x14_1))) (ds := [10]) #[false, false, false, false, false, false, false, false, false, false, false] (by kernel_rfl) rfl rfl ⟨hx104_0, ((HB.out.cell (World.block_lt_of_cell? w _ hw105_0)).trans hw105_0)⟩ (fun hHeld => ?_); refine with_tabW delta_mix.tab5 delta_mix.bits5 (fun HT_ HW_ => ?_)
              generalize wr.drew = w11 at HO_5 HB GG10 HQ13 hf10_0 hx104_0 hx105_0 hx10_0 hHeld ⊢
              refine pure_ (i := 0) (N := some 17) (v := ?_) (a' := ?_) #[true, false, false, false, false, false, false, false, false, false, false] rfl rfl (any_of HT_.out (by kernel_rfl)) (fun _ _ _ h => h) (Or.inl ⟨by rfl, ?_⟩) ?_ ?_
              rotate_left
              · intro w'
                go_simp
                with_reducible rfl
              rotate_left
              · simp only [Act.put, List.setIfInBounds_toArray, List.set_cons_zero, List.set_cons_succ, i64_w, i32_w]
                rfl
              refine pure_ (i := 1) (N := some 18) (v := ?_) (a' := ?_) #[true, true, false, false, false, false, false, false, false, false, false] rfl rfl (any_of HT_.out (by kernel_rfl)) (fun _ _ _ h => h) (Or.inl ⟨by rfl, ?_⟩) ?_ ?_
              rotate_left
              · intro w'
                go_simp
                with_reducible rfl
              rotate_left
              · simp only [Act.put, List.setIfInBounds_toArray, List.set_cons_zero, List.set_cons_succ, i64_w, i32_w]
                rfl
              refine pure_ (i := 2) (N := some 19) (v := ?_) (a' := ?_) #[true, true, true, false, false, false, false, false, false, false, false] rfl rfl (any_of HT_.out (by kernel_rfl)) (fun _ _ _ h => h) (Or.inl ⟨by rfl, ?_⟩) ?_ ?_
              rotate_left
              · intro w'
                go_simp
                with_reducible rfl
              rotate_left
              · simp only [Act.put, List.setIfInBounds_toArray, List.set_cons_zero, List.set_cons_succ, i64_w, i32_w]
                rfl
              refine pure_ (i := 4) (N := some 21) (v := ?_) (a' := ?_) #[true, true, true, false, true, false, false, false, false, false, false] rfl rfl (any_of HT_.out (by kernel_rfl)) (fun _ _ _ h => h) (Or.inl ⟨by rfl, ?_⟩) ?_ ?_
              rotate_left
              · intro w'
                go_simp
                with_reducible rfl
              rotate_left
              · simp only [Act.put, List.setIfInBounds_toArray, List.set_cons_zero, List.set_cons_succ, i64_w, i32_w]
                rfl
              refine pure_ (i := 5) (N := some 22) (v := ?_) (a' := ?_) #[true, true, true, false, true, true, false, false, false, false, false] rfl rfl (any_of HT_.out (by kernel_rfl)) (fun _ _ _ h => h) (Or.inl ⟨by rfl, ?_⟩) ?_ ?_
              rotate_left
              · intro w'
                go_simp
                with_reducible rfl
              rotate_left
              · simp only [Act.put, List.setIfInBounds_toArray, List.set_cons_zero, List.set_cons_succ, i64_w, i32_w]
                rfl
              refine pure_ (i := 6) (N := some 23) (v := ?_) (a' := ?_) #[true, true, true, false, true, true, true, false, false, false, false] rfl rfl (any_of HT_.out (by kernel_rfl)) (fun _ _ _ h => h) (Or.inl ⟨by rfl, ?_⟩) ?_ ?_
              rotate_left
              · intro w'
                go_simp
                with_reducible rfl
              rotate_left
              · simp only [Act.put, List.setIfInBounds_toArray, List.set_cons_zero, List.set_cons_succ, i64_w, i32_w]
                rfl
              refine take_ (i := 3) (N := some 20) (v := ?_) (a' := ?_) #[true, true, true, true, true, true, true, false, false, false, false] rfl rfl (take_ofW HT_.out HW_.out (by kernel_rfl)) (fun _ _ _ h => h) (Or.inl ⟨by rfl, ?_⟩) hHeld ?_ ?_
              rotate_left
              · rintro w' ⟨s0, s1⟩
                go_simp
                with_reducible rfl
              rotate_left
              · simp only [Act.put, List.setIfInBounds_toArray, List.set_cons_zero, List.set_cons_succ, i64_w, i32_w]
                rfl
              refine take_ (i := 7) (N := some 24) (v := ?_) (a' := ?_) #[true, true, true, true, true, true, true, true, false, false, false] rfl rfl (take_ofW HT_.out HW_.out (by kernel_rfl)) (fun _ _ _ h => h) (Or.inl ⟨by rfl, ?_⟩) hHeld ?_ ?_
              rotate_left
              · rintro w' ⟨s0, s1⟩
                go_simp
                with_reducible rfl
              rotate_left
              · simp only [Act.put, List.setIfInBounds_toArray, List.set_cons_zero, List.set_cons_succ, i64_w, i32_w]
                rfl
              refine pure_ (i := 8) (N := some 25) (v := ?_) (a' := ?_) #[true, true, true, true, true, true, true, true, true, false, false] rfl rfl (any_of HT_.out (by kernel_rfl)) (fun _ _ _ h => h) (Or.inl ⟨by rfl, ?_⟩) ?_ ?_
              rotate_left
              · intro w'
                go_simp
                with_reducible rfl
              rotate_left
              · simp only [Act.put, List.setIfInBounds_toArray, List.set_cons_zero, List.set_cons_succ, i64_w, i32_w]
                rfl
              refine pure_ (i := 9) (N := some 26) (v := ?_) (a' := ?_) #[true, true, true, true, true, true, true, true, true, true, false] rfl rfl (any_of HT_.out (by kernel_rfl)) (fun _ _ _ h => h) (Or.inl ⟨by rfl, ?_⟩) ?_ ?_
              rotate_left
              · intro w'
                go_simp
                with_reducible rfl
              rotate_left
              · simp only [Act.put, List.setIfInBounds_toArray, List.set_cons_zero, List.set_cons_succ, i64_w, i32_w]
                rfl
              refine last_ (i := 10) (N := none) #[true, true, true, true, true, true, true, true, true, true, true] rfl rfl (one_of HT_.out (by kernel_rfl)) (by decide) (fun K hK => ?_)
              refine skip_ (w1 := ?_) (by rfl) rfl ?_ ?_
              rotate_left
              · go_simp
                rfl
              refine hK.out _ _ ?_
              clear hK K
              refine done_ (done_of HT_.out (by kernel_rfl)) ?_
              try go_wp2
              go_roundg k1
              case measure => have := HK1.out; omega
              case rel => exact ⟨(y106), (wrap64 (x14_1 + 1)), (by first | rfl | (simp; done) | (simp [*]; done)), H', ⟨by have := HK1.out; omega⟩, ⟨by (with_reducible repeat (first | apply Kd.R_alloc | apply Kd.R_drewN | apply Kd.R_drew)); exact HQ13.out⟩, ⟨by repeat (first | (with_reducible first | exact HB.out | apply below_alloc | apply pw_below_drewN | apply below_drew1 | refine below_set ?_ GB10.out) | exact HB.out)⟩⟩
            · rw [if_neg c9] at H
              exact absurd H (by simp)
          · rw [if_neg c8] at H
            exact absurd H (by simp)
        · rw [if_neg c7] at H
          exact absurd H (by simp)
      · rw [if_neg c6] at H
        have c6b0 : decide (x14_1 < ji4) = false := decide_eq_false c6
        clear c6
        obtain rfl := Option.some.inj H
        go_wp2
        go_ret
        exact ⟨_, by first | rfl | (simp [errW_none, errW_some] <;> rfl) | (simp only [← hji4]; first | rfl | (simp [errW_none, errW_some] <;> rfl)) | (simp [*, errW_none, errW_some] <;> rfl), by (with_reducible repeat (first | apply Kd.R_alloc | apply Kd.R_drewN | apply Kd.R_drew)); exact HO_5.out, by repeat (first | (with_reducible first | exact HB.out | apply below_alloc | apply pw_below_drewN | apply below_drew1) | exact HB.out)⟩

/-! ### wire_PutText: function 20 -/
def wire_PutText.f (l0 : List Int) (a1 : ByteArray) : Option (List Int) := (wire_Put.f l0 (IntKind.u64.wrap ((a1.size : Int)))).bind fun t107 => (if t107.length + a1.size < 140737488355328 then (some (t107 ++ bytesOf a1)) else (none))
set_option maxHeartbeats 8000000 in
set_option maxRecDepth 100000 in
theorem wire_PutText.calls (A0 : Option Addr) (c0 : Nat) (l0 : List Int) (a1 : ByteArray) (r : List Int) (w : World) (hr0 : Kd.C (Kd.int .u8) w A0 l0.length l0) (hc0 : l0.length ≤ c0) (h : wire_PutText.f l0 a1 = some r) :
    Calls Try.prog 20 #[.slice A0 l0.length c0, .string a1] w fun e w' => ∃ v0_ : Value, e = .returned (v0_) ∧ Kd.R (Kd.int .u8) 5 w' w.heap.size (fun _ => True) v0_ r ∧ Below w.heap.size w w' := by
  have HR0 := Aside0.mk hr0
  have HC0 := Aside0.mk hc0
  clear hr0 hc0
  have HB := Aside0.mk (Below.refl w.heap.size w)
  have H : ((wire_Put.f l0 (IntKind.u64.wrap ((a1.size : Int)))).bind fun t107 => (if t107.length + a1.size < 140737488355328 then (some (t107 ++ bytesOf a1)) else (none))) = some r := h
  clear h
  replace H := Option.bind_eq_some_iff.mp H
  obtain ⟨t107, A30, H⟩ := H
  replace H : (if t107.length + a1.size < 140737488355328 then (some (t107 ++ bytesOf a1)) else (none)) = some r := H
  have A3 := Aside0.mk A30
  clear A30
  by_cases c4 : t107.length + a1.size < 140737488355328
  · rw [if_pos c4] at H
    have LMc4 := Aside0.mk c4
    clear c4
    obtain ⟨y110, hy110⟩ : ∃ y_ : List Int, y_ = (t107 ++ bytesOf a1) := ⟨_, rfl⟩
    replace H : (some y110) = some r := by first | (rw [hy110]; with_reducible exact H) | (have H2_ := (Option.bind_some _ _).symm.trans H; rw [hy110]; with_reducible exact H2_) | (have H2_ := (Option.bind_some _ _).symm.trans H; with_reducible exact H2_) | with_reducible exact H | (rw [hy110]; exact H) | exact H
    have Ny110 := Aside0.mk hy110
    clear hy110
    obtain rfl := Option.some.inj H
    go_enter Try.func20, Try.ntmps20
    go_wp2_with (first | ((with_reducible refine gate_callee (f := 17) rfl ?_); refine goesL_ (some 9) rfl rfl Try.func17 (by kernel_rfl) rfl #[.slice A0 l0.length c0, .int .u64 (IntKind.u64.wrap ((a1.size : Int)))] rfl (by (try simp only [List.map_toArray, List.map_cons, List.map_nil]); first | done | rfl | (simp only [List.length_drop, List.length_take]; rfl)) ?_; (with_reducible refine (wire_Put.calls _ _ l0 (IntKind.u64.wrap ((a1.size : Int))) t107 _ ?side1 ?side2 A3.out).mono ?_); (case side1 => repeat (first | exact HR0.out | (with_reducible refine Kd.C_alloc ?_ _) | (with_reducible refine Kd.C_drewN ?_ _) | (with_reducible refine Kd.C_drew ?_))); (case side2 => exact HC0.out); rintro e w5 ⟨v108, rfl, ho0, hb⟩; refine ⟨_, rfl, ?_⟩; have n0_ := Aside0.mk (Kd.R_lower ho0 (below_size (by repeat (first | (with_reducible first | exact HB.out | apply below_alloc | apply pw_below_drewN | apply below_drew1) | exact HB.out)))); have n1_ := Aside0.mk (below_step (by repeat (first | (with_reducible first | exact HB.out | apply below_alloc | apply pw_below_drewN | apply below_drew1) | exact HB.out)) hb); clear HB; have HO109 := n0_; have HB := n1_; clear n0_ n1_; (try clear hb); (try clear hb2); (try clear hk); (try clear hi); (try clear ho0)) | (at_builtin; refine print_append_str (w0 := w) w.heap.size rfl (.tmp 9) _ 22 9 5 rfl Try.underlying22 Try.underlying9 info5 v108 t107 a1 rfl rfl ?aO ?aB ?aS ?aL ?_; (case aB => exact (by repeat (first | (with_reducible first | exact HB.out | apply below_alloc | apply pw_below_drewN | apply below_drew1) | exact HB.out))); (case aO => exact (Kd.own_of_R (by (with_reducible repeat (first | apply Kd.R_alloc | apply Kd.R_drewN | apply Kd.R_drew)); exact HO109.out))); (case aS => exact (below_size (by repeat (first | (with_reducible first | exact HB.out | apply below_alloc | apply pw_below_drewN | apply below_drew1) | exact HB.out)))); (case aL => have := LMc4.out; omega); intro v111 w6 ho0 hb hg; have ho := Kd.R_of_own (h1 := fun _ => rfl) (ok := fun _ => True) ho0 (fun _ _ => trivial); clear ho0; have hat := True.intro; rw [← Ny110.out] at ho; change Kd.R (Kd.int .u8) 5 w6 w.heap.size (fun _ => True) v111 y110 at ho; have n0_ := Aside0.mk (hb); have n1_ := Aside0.mk (ho); clear HB; clear HO109; have HB := n0_; have HO112 := n1_; clear n0_ n1_; clear ho hb hg hat))
    go_ret
    exact ⟨_, by first | rfl | (simp [errW_none, errW_some] <;> rfl) | (simp [*, errW_none, errW_some] <;> rfl), by (with_reducible repeat (first | apply Kd.R_alloc | apply Kd.R_drewN | apply Kd.R_drew)); exact HO112.out, by repeat (first | (with_reducible first | exact HB.out | apply below_alloc | apply pw_below_drewN | apply below_drew1) | exact HB.out)⟩
  · rw [if_neg c4] at H
    exact absurd H (by simp)

end Go.Proofs.Ytocadookdkmahaa.PDeltaDiffs
