/- Path: a node is laid behind the others (nodes.Push). No condition. -/
import Derived.Test.YtkbimhngbdbgdaaInv
namespace Go.Proofs.Ytkbimhngbdbgdaa.PPathFinds
open Go.RowKit Go.Proofs.YtkbimhngbdbgdaaW.PrintWords Go.Proofs.YtkbimhngbdbgdaaW.PrintLast Go.Proofs.YtkbimhngbdbgdaaW.PrintMore
attribute [local go_sem] max2_int min2_int max_two min_two max_three min_three max_four min_four   -- for this text's walks alone
set_option linter.unusedVariables false
set_option linter.unusedSimpArgs false
set_option maxHeartbeats 4000000
set_option maxRecDepth 20000
theorem info51 : (Try.prog.info? 51).map (fun i => (i.zero, i.size, i.bytes)) = some (some (.agg #[.int .i64 0, .int .i64 0, .int .i64 0]), 3, 24) := by kernel_rfl
theorem R_append_wp {α : Type} {P : Program} {Q : Exit → Act → World → Prop} {o : Oper} {a : Act} {Kc : Act → World → Prop} (d : Kd α) {w0 W : World} (base : Nat) (hgd : o.guard = none) (s x : Operand) (t e : TypeId) (z : Value) (bytes : Nat)
    (ho : o.op = .call { callee := .builtin .append, args := #[s, x], argTypes := #[t, t] })
    (ht : P.underlying t = some (.slice e)) (hinfo : (P.info? e).map (fun i => (i.zero, i.size, i.bytes)) = some (some z, d.sz, bytes)) (hz : z.cells.size = d.sz) (hs0 : 0 < d.sz) (hb0 : 0 < bytes)
    (v : Value) (xs : List α) (p : α) (cs : List Value) (ok okp : Nat → Prop) (hs : a.eval s = v) (hx : a.eval x = .slice (some ⟨W.heap.size, 0, none⟩) 1 1) (hp : d.M W base okp p cs) (hokp : ∀ k, okp k → ok k ∧ some k ≠ v.ownBlock) (hfresh : ∀ k, W.heap.size ≤ k → ok k)
    (HO : d.R e W base ok v xs) (HB : Below base w0 W) (hbase : base ≤ W.heap.size) (hl : (xs.length + 1) * bytes ≤ 140737488355328)
    (h : ∀ v1 w1, d.R e w1 base ok v1 (xs ++ [p]) → Below base w0 w1 → W.grownBy w1 v.ownBlock → (v1.ownBlock = v.ownBlock ∨ ∃ b, v1.ownBlock = some b ∧ W.heap.size ≤ b) → Kc (a.put o.dst v1) w1) :
    o.wp P a (W.alloc (.cells cs.toArray e)) Kc Q := by
  have hw : Region.wanted o (yielded #[] a.tmps) = true := by simp [Region.wanted, hgd]
  have hq := Kd.R_append_step (P := P) (Q := Q) (Kc := Kc) d (ops := #[]) (a := a) base hw s x t e z bytes ho ht hinfo hz hs0 hb0 v xs p cs ok okp hs hx hp hokp hfresh HO HB hbase hl h
  rwa [if_pos hw] at hq
theorem pa_push_blk {w W w' : World} {g : Nat} {q : SP} {v : Value} {l : List S51} (h : Hp w W g q v l) (hg : W.drew.grownBy w' v.ownBlock) : w'.heap[g]? = some (.cells (q.cel v) 48 (0, 0)) :=
  (hg.block g (blk_lt h.drew.blk) h.ne).trans h.drew.blk
theorem pa_push_fin {w W w' : World} {g : Nat} {q : SP} {v v' : Value} {l m : List S51} (h : Hp w W g q v l) (hR : Kd.R k51 51 w' w.heap.size (fun _ => True) v' m) (hB : Below w.heap.size w w') (hg : W.drew.grownBy w' v.ownBlock)
    (hat : v'.ownBlock = v.ownBlock ∨ ∃ b, v'.ownBlock = some b ∧ W.drew.heap.size ≤ b) :
    ∃ v1, Hp w (w'.setCell ⟨g, 6, none⟩ v') g q v1 m ∧ KeepBut W (w'.setCell ⟨g, 6, none⟩ v') g v.ownBlock ∧ (v1.ownBlock = v.ownBlock ∨ ∃ b, v1.ownBlock = some b ∧ W.heap.size ≤ b) := by
  have hb := pa_push_blk h hg
  refine ⟨v', ⟨hB.setCell h.gb _, (blk_set hb 6 v').trans rfl, h.gb, Kd.R_set hR hb (by decide) 6 v'⟩, ?_, hat⟩
  exact KeepBut.set_ (KeepBut.trans (KeepBut.of_below (below_drew1 (Below.refl _ _)) g v.ownBlock) (KeepBut.of_grown hg g) (.inl rfl)) 6 v'
theorem nodes_Push_calls (w W : World) (g : Nat) (q : SP) (v : Value) (l : List S51) (x : S51) (hl : l.length ≤ 1000000) (H : Hp w W g q v l) :
    Calls Try.prog 61 #[.pointer (some ⟨g, 6, none⟩), .iface 51 (.agg #[.int .i64 x.f0, .int .i64 x.f1, .int .i64 x.f2])] W fun e W' => e = .returned (.tuple #[]) ∧ ∃ v', Hp w W' g q v' (l ++ [x]) ∧ KeepBut W W' g v.ownBlock ∧ (v'.ownBlock = v.ownBlock ∨ ∃ b, v'.ownBlock = some b ∧ W.heap.size ≤ b) := by
  have HP := Lib.hid H
  clear H
  go_enter Try.func61, Try.ntmps61
  try go_wp2
  refine wp_region_inv (fun a0 w_0 b a' w' => ∃ x4 x5 x6 x7 x8 x9 x10 x11 x12 : Value, a' = (((((((((a0.put (some 4) x4).put (some 5) x5).put (some 6) x6).put (some 7) x7).put (some 8) x8).put (some 9) x9).put (some 10) x10).put (some 11) x11).put (some 12) x12) ∧ (b 6 = false → w' = W.drew) ∧ (b 6 = true → b 7 = false → w' = W.drew.alloc (.cells #[.int .i64 x.f0, .int .i64 x.f1, .int .i64 x.f2] 51) ∧ x10 = .slice (some ⟨W.heap.size, 0, none⟩) 1 1) ∧ (b 7 = false → Hp w w' g q v l) ∧ (b 7 = true → b 9 = false → (Kd.R k51 51 w' w.heap.size (fun _ => True) x11 (l ++ [x]) ∧ Below w.heap.size w w' ∧ W.drew.grownBy w' v.ownBlock ∧ (x11.ownBlock = v.ownBlock ∨ ∃ b, x11.ownBlock = some b ∧ W.drew.heap.size ≤ b))) ∧ (b 7 = true → b 3 = true ∧ b 6 = true) ∧ (b 9 = true → b 7 = true) ∧ (b 9 = true → ∃ v', Hp w w' g q v' (l ++ [x]) ∧ KeepBut W w' g v.ownBlock ∧ (v'.ownBlock = v.ownBlock ∨ ∃ b, v'.ownBlock = some b ∧ W.heap.size ≤ b)) ∧ (b 0 = true → x4 = .pointer (some ⟨g, 6, none⟩)) ∧ (b 1 = true → x5 = .pointer (some ⟨g, 6, none⟩)) ∧ (b 2 = true → x6 = .pointer (some ⟨g, 6, none⟩)) ∧ (b 3 = true → x7 = v) ∧ (b 4 = true → x8 = .iface 51 (.agg #[.int .i64 x.f0, .int .i64 x.f1, .int .i64 x.f2])) ∧ (b 5 = true → x9 = .agg #[.int .i64 x.f0, .int .i64 x.f1, .int .i64 x.f2]) ∧ (b 8 = true → x12 = .pointer (some ⟨g, 6, none⟩))) (by kernel_rfl) (by kernel_rfl) ?start ⟨?op0, ?op1, ?op2, ?op3, ?op4, ?op5, ?op6, ?op7, ?op8, ?op9, trivial⟩ ?done
  case start => exact ⟨_, _, _, _, _, _, _, _, _, by simp only [Act.put, List.setIfInBounds_toArray, List.set_cons_zero, List.set_cons_succ]; rfl, fun _ => rfl, fun h => absurd h (by decide), fun _ => HP.out.drew, fun h => absurd h (by decide), fun h => absurd h (by decide), fun h => absurd h (by decide), fun h => absurd h (by decide), fun h => absurd h (by decide), fun h => absurd h (by decide), fun h => absurd h (by decide), fun h => absurd h (by decide), fun h => absurd h (by decide), fun h => absurd h (by decide), fun h => absurd h (by decide)⟩
  case op0 =>
    rintro bb _ w' ⟨x4, x5, x6, x7, x8, x9, x10, x11, x12, rfl, A0, A1, HW, A2, Q7, Q97, F, p4, p5, p6, p7, p8, p9, p12⟩ hb hd K hK
    simp only [Act.put, List.setIfInBounds_toArray, List.set_cons_zero, List.set_cons_succ]
    rw [if_pos (by rfl)]
    go_simp
    exact hK _ _ ⟨.pointer (some ⟨g, 6, none⟩), x5, x6, x7, x8, x9, x10, x11, x12, by simp only [Act.put, List.setIfInBounds_toArray, List.set_cons_zero, List.set_cons_succ], fun h => A0 (by simpa [upb] using h), fun h h2 => A1 (by simpa [upb] using h) (by simpa [upb] using h2), fun h => HW (by simpa [upb] using h), fun h h2 => A2 (by simpa [upb] using h) (by simpa [upb] using h2), fun h => by have h4 := Q7 (by simpa [upb] using h); simp [upb, h4.1, h4.2], fun h => by have h4 := Q97 (by simpa [upb] using h); simp [upb, h4], fun h => F (by simpa [upb] using h), fun _ => rfl, fun h => p5 (by simpa [upb] using h), fun h => p6 (by simpa [upb] using h), fun h => p7 (by simpa [upb] using h), fun h => p8 (by simpa [upb] using h), fun h => p9 (by simpa [upb] using h), fun h => p12 (by simpa [upb] using h)⟩
  case op1 =>
    rintro bb _ w' ⟨x4, x5, x6, x7, x8, x9, x10, x11, x12, rfl, A0, A1, HW, A2, Q7, Q97, F, p4, p5, p6, p7, p8, p9, p12⟩ hb hd K hK
    simp only [Act.put, List.setIfInBounds_toArray, List.set_cons_zero, List.set_cons_succ]
    rw [if_pos (by rfl)]
    go_simp
    exact hK _ _ ⟨x4, .pointer (some ⟨g, 6, none⟩), x6, x7, x8, x9, x10, x11, x12, by simp only [Act.put, List.setIfInBounds_toArray, List.set_cons_zero, List.set_cons_succ], fun h => A0 (by simpa [upb] using h), fun h h2 => A1 (by simpa [upb] using h) (by simpa [upb] using h2), fun h => HW (by simpa [upb] using h), fun h h2 => A2 (by simpa [upb] using h) (by simpa [upb] using h2), fun h => by have h4 := Q7 (by simpa [upb] using h); simp [upb, h4.1, h4.2], fun h => by have h4 := Q97 (by simpa [upb] using h); simp [upb, h4], fun h => F (by simpa [upb] using h), fun h => p4 (by simpa [upb] using h), fun _ => rfl, fun h => p6 (by simpa [upb] using h), fun h => p7 (by simpa [upb] using h), fun h => p8 (by simpa [upb] using h), fun h => p9 (by simpa [upb] using h), fun h => p12 (by simpa [upb] using h)⟩
  case op2 =>
    rintro bb _ w' ⟨x4, x5, x6, x7, x8, x9, x10, x11, x12, rfl, A0, A1, HW, A2, Q7, Q97, F, p4, p5, p6, p7, p8, p9, p12⟩ hb hd K hK
    simp only [Act.put, List.setIfInBounds_toArray, List.set_cons_zero, List.set_cons_succ]
    obtain rfl := (p5 (hd 1 (by decide))).symm
    rw [if_pos (by rfl)]
    go_simp
    exact hK _ _ ⟨x4, .pointer (some ⟨g, 6, none⟩), .pointer (some ⟨g, 6, none⟩), x7, x8, x9, x10, x11, x12, by simp only [Act.put, List.setIfInBounds_toArray, List.set_cons_zero, List.set_cons_succ], fun h => A0 (by simpa [upb] using h), fun h h2 => A1 (by simpa [upb] using h) (by simpa [upb] using h2), fun h => HW (by simpa [upb] using h), fun h h2 => A2 (by simpa [upb] using h) (by simpa [upb] using h2), fun h => by have h4 := Q7 (by simpa [upb] using h); simp [upb, h4.1, h4.2], fun h => by have h4 := Q97 (by simpa [upb] using h); simp [upb, h4], fun h => F (by simpa [upb] using h), fun h => p4 (by simpa [upb] using h), fun _ => rfl, fun _ => rfl, fun h => p7 (by simpa [upb] using h), fun h => p8 (by simpa [upb] using h), fun h => p9 (by simpa [upb] using h), fun h => p12 (by simpa [upb] using h)⟩
  case op3 =>
    rintro bb _ w' ⟨x4, x5, x6, x7, x8, x9, x10, x11, x12, rfl, A0, A1, HW, A2, Q7, Q97, F, p4, p5, p6, p7, p8, p9, p12⟩ hb hd K hK
    simp only [Act.put, List.setIfInBounds_toArray, List.set_cons_zero, List.set_cons_succ]
    obtain rfl := (p6 (hd 2 (by decide))).symm
    rw [if_pos (by rfl)]
    have h7 : bb 7 = false := by cases h : bb 7 with | false => rfl | true => exact absurd (Q7 h).1 (by rw [hb]; decide)
    have hc := (HW h7).cell
    go_simp
    exact hK _ _ ⟨x4, x5, .pointer (some ⟨g, 6, none⟩), v, x8, x9, x10, x11, x12, by simp only [Act.put, List.setIfInBounds_toArray, List.set_cons_zero, List.set_cons_succ], fun h => A0 (by simpa [upb] using h), fun h h2 => A1 (by simpa [upb] using h) (by simpa [upb] using h2), fun h => HW (by simpa [upb] using h), fun h h2 => A2 (by simpa [upb] using h) (by simpa [upb] using h2), fun h => by have h4 := Q7 (by simpa [upb] using h); simp [upb, h4.1, h4.2], fun h => by have h4 := Q97 (by simpa [upb] using h); simp [upb, h4], fun h => F (by simpa [upb] using h), fun h => p4 (by simpa [upb] using h), fun h => p5 (by simpa [upb] using h), fun _ => rfl, fun _ => rfl, fun h => p8 (by simpa [upb] using h), fun h => p9 (by simpa [upb] using h), fun h => p12 (by simpa [upb] using h)⟩
  case op4 =>
    rintro bb _ w' ⟨x4, x5, x6, x7, x8, x9, x10, x11, x12, rfl, A0, A1, HW, A2, Q7, Q97, F, p4, p5, p6, p7, p8, p9, p12⟩ hb hd K hK
    simp only [Act.put, List.setIfInBounds_toArray, List.set_cons_zero, List.set_cons_succ]
    rw [if_pos (by rfl)]
    go_simp
    exact hK _ _ ⟨x4, x5, x6, x7, .iface 51 (.agg #[.int .i64 x.f0, .int .i64 x.f1, .int .i64 x.f2]), x9, x10, x11, x12, by simp only [Act.put, List.setIfInBounds_toArray, List.set_cons_zero, List.set_cons_succ], fun h => A0 (by simpa [upb] using h), fun h h2 => A1 (by simpa [upb] using h) (by simpa [upb] using h2), fun h => HW (by simpa [upb] using h), fun h h2 => A2 (by simpa [upb] using h) (by simpa [upb] using h2), fun h => by have h4 := Q7 (by simpa [upb] using h); simp [upb, h4.1, h4.2], fun h => by have h4 := Q97 (by simpa [upb] using h); simp [upb, h4], fun h => F (by simpa [upb] using h), fun h => p4 (by simpa [upb] using h), fun h => p5 (by simpa [upb] using h), fun h => p6 (by simpa [upb] using h), fun h => p7 (by simpa [upb] using h), fun _ => rfl, fun h => p9 (by simpa [upb] using h), fun h => p12 (by simpa [upb] using h)⟩
  case op5 =>
    rintro bb _ w' ⟨x4, x5, x6, x7, x8, x9, x10, x11, x12, rfl, A0, A1, HW, A2, Q7, Q97, F, p4, p5, p6, p7, p8, p9, p12⟩ hb hd K hK
    simp only [Act.put, List.setIfInBounds_toArray, List.set_cons_zero, List.set_cons_succ]
    obtain rfl := (p8 (hd 4 (by decide))).symm
    rw [if_pos (by rfl)]
    go_simp
    exact hK _ _ ⟨x4, x5, x6, x7, .iface 51 (.agg #[.int .i64 x.f0, .int .i64 x.f1, .int .i64 x.f2]), .agg #[.int .i64 x.f0, .int .i64 x.f1, .int .i64 x.f2], x10, x11, x12, by (simp only [Act.put, List.setIfInBounds_toArray, List.set_cons_zero, List.set_cons_succ]; rfl), fun h => A0 (by simpa [upb] using h), fun h h2 => A1 (by simpa [upb] using h) (by simpa [upb] using h2), fun h => HW (by simpa [upb] using h), fun h h2 => A2 (by simpa [upb] using h) (by simpa [upb] using h2), fun h => by have h4 := Q7 (by simpa [upb] using h); simp [upb, h4.1, h4.2], fun h => by have h4 := Q97 (by simpa [upb] using h); simp [upb, h4], fun h => F (by simpa [upb] using h), fun h => p4 (by simpa [upb] using h), fun h => p5 (by simpa [upb] using h), fun h => p6 (by simpa [upb] using h), fun h => p7 (by simpa [upb] using h), fun _ => rfl, fun _ => rfl, fun h => p12 (by simpa [upb] using h)⟩
  case op6 =>
    rintro bb _ w' ⟨x4, x5, x6, x7, x8, x9, x10, x11, x12, rfl, A0, A1, HW, A2, Q7, Q97, F, p4, p5, p6, p7, p8, p9, p12⟩ hb hd K hK
    simp only [Act.put, List.setIfInBounds_toArray, List.set_cons_zero, List.set_cons_succ]
    obtain rfl := (p9 (hd 5 (by decide))).symm
    rw [if_pos (by rfl)]
    have h7 : bb 7 = false := by cases h : bb 7 with | false => rfl | true => exact absurd (Q7 h).2 (by rw [hb]; decide)
    obtain rfl := A0 hb
    have halloc := (HW h7).next (below_alloc (Below.refl _ _) (.cells #[.int .i64 x.f0, .int .i64 x.f1, .int .i64 x.f2] 51))
    go_simp
    exact hK _ _ ⟨x4, x5, x6, x7, x8, .agg #[.int .i64 x.f0, .int .i64 x.f1, .int .i64 x.f2], .slice (some ⟨W.heap.size, 0, none⟩) 1 1, x11, x12, by simp only [Act.put, List.setIfInBounds_toArray, List.set_cons_zero, List.set_cons_succ], fun h => absurd h (by simp [upb]), fun _ _ => ⟨rfl, rfl⟩, fun h => halloc, fun h => absurd (Q7 (by simpa [upb] using h)).2 (by rw [hb]; decide), fun h => by have h4 := Q7 (by simpa [upb] using h); simp [upb, h4.1, h4.2], fun h => by have h4 := Q97 (by simpa [upb] using h); simp [upb, h4], fun h => absurd (Q7 (Q97 (by simpa [upb] using h))).2 (by rw [hb]; decide), fun h => p4 (by simpa [upb] using h), fun h => p5 (by simpa [upb] using h), fun h => p6 (by simpa [upb] using h), fun h => p7 (by simpa [upb] using h), fun h => p8 (by simpa [upb] using h), fun _ => rfl, fun h => p12 (by simpa [upb] using h)⟩
  case op7 =>
    rintro bb _ w' ⟨x4, x5, x6, x7, x8, x9, x10, x11, x12, rfl, A0, A1, HW, A2, Q7, Q97, F, p4, p5, p6, p7, p8, p9, p12⟩ hb hd K hK
    simp only [Act.put, List.setIfInBounds_toArray, List.set_cons_zero, List.set_cons_succ]
    obtain rfl := (p7 (hd 3 (by decide))).symm
    rw [if_pos (by rfl)]
    obtain ⟨hw1, hx1⟩ := A1 (hd 6 (by decide)) hb
    subst hx1
    subst hw1
    refine R_append_wp k51 (w0 := w) (W := W.drew) w.heap.size ?hw (.tmp 7) (.tmp 10) 46 51 (.agg #[.int .i64 0, .int .i64 0, .int .i64 0]) 24 ?ho Try.underlying46 info51 rfl (by decide) (by decide) v l x [.int .i64 x.f0, .int .i64 x.f1, .int .i64 x.f2] (fun _ => True) (fun _ => False) ?hs ?hx (k51_mkM _ _ _ _) (fun _ h => h.elim) (fun _ _ => trivial) HP.out.drew.own HP.out.drew.bel HP.out.bel.size (by omega) ?hk
    case ho => rfl
    case hw => rfl
    case hs => rfl
    case hx => rfl
    intro v1 w2 hR2 hB2 hgr hat
    exact hK _ _ ⟨x4, x5, x6, v, x8, x9, .slice (some ⟨W.heap.size, 0, none⟩) 1 1, v1, x12, by simp only [Act.put, List.setIfInBounds_toArray, List.set_cons_zero, List.set_cons_succ], fun h => absurd (hd 6 (by decide)) (by simpa [upb] using h), fun _ h => absurd h (by simp [upb]), fun h => absurd h (by simp [upb]), fun _ _ => ⟨hR2, hB2, hgr, hat⟩, fun _ => ⟨by have := hd 3 (by decide); simp [upb, this], by have := hd 6 (by decide); simp [upb, this]⟩, fun h => absurd (Q97 (by simpa [upb] using h)) (by rw [hb]; decide), fun h => absurd (Q97 (by simpa [upb] using h)) (by rw [hb]; decide), fun h => p4 (by simpa [upb] using h), fun h => p5 (by simpa [upb] using h), fun h => p6 (by simpa [upb] using h), fun _ => rfl, fun h => p8 (by simpa [upb] using h), fun h => p9 (by simpa [upb] using h), fun h => p12 (by simpa [upb] using h)⟩
  case op8 =>
    rintro bb _ w' ⟨x4, x5, x6, x7, x8, x9, x10, x11, x12, rfl, A0, A1, HW, A2, Q7, Q97, F, p4, p5, p6, p7, p8, p9, p12⟩ hb hd K hK
    simp only [Act.put, List.setIfInBounds_toArray, List.set_cons_zero, List.set_cons_succ]
    obtain rfl := (p4 (hd 0 (by decide))).symm
    rw [if_pos (by rfl)]
    go_simp
    exact hK _ _ ⟨.pointer (some ⟨g, 6, none⟩), x5, x6, x7, x8, x9, x10, x11, .pointer (some ⟨g, 6, none⟩), by simp only [Act.put, List.setIfInBounds_toArray, List.set_cons_zero, List.set_cons_succ], fun h => A0 (by simpa [upb] using h), fun h h2 => A1 (by simpa [upb] using h) (by simpa [upb] using h2), fun h => HW (by simpa [upb] using h), fun h h2 => A2 (by simpa [upb] using h) (by simpa [upb] using h2), fun h => by have h4 := Q7 (by simpa [upb] using h); simp [upb, h4.1, h4.2], fun h => by have h4 := Q97 (by simpa [upb] using h); simp [upb, h4], fun h => F (by simpa [upb] using h), fun _ => rfl, fun h => p5 (by simpa [upb] using h), fun h => p6 (by simpa [upb] using h), fun h => p7 (by simpa [upb] using h), fun h => p8 (by simpa [upb] using h), fun h => p9 (by simpa [upb] using h), fun _ => rfl⟩
  case op9 =>
    rintro bb _ w' ⟨x4, x5, x6, x7, x8, x9, x10, x11, x12, rfl, A0, A1, HW, A2, Q7, Q97, F, p4, p5, p6, p7, p8, p9, p12⟩ hb hd K hK
    simp only [Act.put, List.setIfInBounds_toArray, List.set_cons_zero, List.set_cons_succ]
    obtain rfl := (p12 (hd 8 (by decide))).symm
    rw [if_pos (by rfl)]
    have h7 := hd 7 (by decide)
    obtain rfl := (p7 (Q7 h7).1).symm
    have hA2 := A2 h7 hb
    have hfin := pa_push_fin HP.out hA2.1 hA2.2.1 hA2.2.2.1 hA2.2.2.2
    obtain ⟨A1_, c1_, hx11⟩ := Kd.R_slice hA2.1
    have hblk := pa_push_blk HP.out hA2.2.2.1
    have hc6 : w'.cell? ⟨g, 6, none⟩ = some v := (blk_cell hblk 6).trans rfl
    have hf6 : w'.frozen? ⟨g, 6, none⟩ = false := blk_frozen hblk 6
    rw [List.length_append, List.length_singleton] at hx11
    subst hx11
    go_simp
    exact hK _ _ ⟨x4, x5, x6, v, x8, x9, x10, .slice A1_ (l.length + 1) c1_, .pointer (some ⟨g, 6, none⟩), by simp only [Act.put, List.setIfInBounds_toArray, List.set_cons_zero, List.set_cons_succ], fun h => absurd (show bb 6 = false by simpa [upb] using h) (by rw [(Q7 (hd 7 (by decide))).2]; decide), fun _ h => absurd (hd 7 (by decide)) (by simpa [upb] using h), fun h => absurd (hd 7 (by decide)) (by simpa [upb] using h), fun _ h => absurd h (by simp [upb]), fun h => by have h4 := Q7 (by simpa [upb] using h); simp [upb, h4.1, h4.2], fun _ => by have := hd 7 (by decide); simp [upb, this], fun _ => hfin, fun h => p4 (by simpa [upb] using h), fun h => p5 (by simpa [upb] using h), fun h => p6 (by simpa [upb] using h), fun h => p7 (by simpa [upb] using h), fun h => p8 (by simpa [upb] using h), fun h => p9 (by simpa [upb] using h), fun _ => rfl⟩
  case done =>
    rintro bb _ w' hb ⟨x4, x5, x6, x7, x8, x9, x10, x11, x12, rfl, A0, A1, HW, A2, Q7, Q97, F, p4, p5, p6, p7, p8, p9, p12⟩
    obtain rfl := (p4 (hb 0 (by decide))).symm
    obtain rfl := (p5 (hb 1 (by decide))).symm
    obtain rfl := (p6 (hb 2 (by decide))).symm
    obtain rfl := (p7 (hb 3 (by decide))).symm
    obtain rfl := (p8 (hb 4 (by decide))).symm
    obtain rfl := (p9 (hb 5 (by decide))).symm
    obtain rfl := (p12 (hb 8 (by decide))).symm
    simp only [Act.put, List.setIfInBounds_toArray, List.set_cons_zero, List.set_cons_succ]
    have k3 := F (hb 9 (by decide))
    clear A0 A1 HW A2 Q7 Q97 F hb HP
    go_wp2_with fail
    first | go_end0 | ((try simp only [Exit.inBlock, Exit.then]); refine bodyPost_ret (results_none rfl _ _ _) rfl ?_)
    exact ⟨rfl, k3⟩
end Go.Proofs.Ytkbimhngbdbgdaa.PPathFinds
