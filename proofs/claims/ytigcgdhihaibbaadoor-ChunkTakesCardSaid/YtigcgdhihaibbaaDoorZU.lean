import Derived.Test.YtigcgdhihaibbaaDoorZ9
import Derived.Test.YtigcgdhihaibbaaDoorZR
namespace Go.Proofs.YtigcgdhihaibbaaDoor.PLz
open Go.RowKit Go.Proofs.YtigcgdhihaibbaaDoorW.PrintWords Go.Proofs.YtigcgdhihaibbaaDoorW.PrintLast Go.Proofs.YtigcgdhihaibbaaDoorW.PrintMore
attribute [local go_sem] max2_int min2_int max_two min_two max_three min_three max_four min_four   -- for this text's walks alone
set_option linter.unusedVariables false
set_option linter.unusedSimpArgs false
/-- what tokens tell: the text so far; the error -/
def lz_copy (far : Nat) : Nat → List Int → List Int
  | 0, out => out
  | n + 1, out => lz_copy far n (out ++ [out.getD (out.length - 1 - far) 0])
def lz_unF (most : Int) : Nat → List Int → List Int → List Int × Int
  | 0, _, _ => ([], 0)
  | f + 1, c, out =>
    if c = [] then (out, 0) else
    if 128 ≤ c.headD 0 then ([], 4) else
    if c.headD 0 % 2 = 0 then
      (if most < out.length + (c.headD 0 / 2 + 1) then ([], 6) else
       if (c.tail.length : Int) < c.headD 0 / 2 + 1 then ([], 3) else
       lz_unF most f (c.tail.drop (c.headD 0 / 2 + 1).toNat) (out ++ c.tail.take (c.headD 0 / 2 + 1).toNat))
    else
      (if (wire_vr c.tail 10 0 0).2.2 ≠ 0 then ([], (wire_vr c.tail 10 0 0).2.2) else
       if 2147483647 < (wire_vr c.tail 10 0 0).1 then ([], 4) else
       if 4096 ≤ (wire_vr c.tail 10 0 0).1 ∨ (out.length : Int) ≤ (wire_vr c.tail 10 0 0).1 then ([], 4) else
       if most < out.length + (c.headD 0 / 2 + 3) then ([], 6) else
       lz_unF most f (c.tail.drop (wire_vr c.tail 10 0 0).2.1.toNat) (lz_copy (wire_vr c.tail 10 0 0).1.toNat (c.headD 0 / 2 + 3).toNat out))
/-- what holds as tokens are read -/
structure lz_Un (w0 W : World) (g pm po : Nat) (l0 : List Int) (p : Nat) (e a1 : Int) (vo : Value) (out : List Int) : Prop where
  rd : IsS72 w0 W g l0 p e
  hb : Below w0.heap.size w0 W
  m : W.heap[pm]? = some (.cells #[.int .i64 a1] 3 (0, 0))
  o : W.heap[po]? = some (.cells #[vo] 22 (0, 0))
  out : Kd.R (Kd.int .u8) 5 W w0.heap.size (fun _ => True) vo out
  pob : w0.heap.size ≤ po
theorem lz_Un.next {w0 W W' : World} {g pm po : Nat} {l0 : List Int} {p : Nat} {e a1 : Int} {vo : Value} {out : List Int} (h : lz_Un w0 W g pm po l0 p e a1 vo out) (hb : Below W.heap.size W W') : lz_Un w0 W' g pm po l0 p e a1 vo out :=
  ⟨h.rd.below hb, below_then h.hb h.hb.size hb, (hb.block _ (blk_lt h.m)).trans h.m, (hb.block _ (blk_lt h.o)).trans h.o, Kd.R_below h.out hb, h.pob⟩
theorem IsS72.blk {w0 W : World} {g : Nat} {f0 : List Int} {f1 f2 : Int} (h : IsS72 w0 W g f0 f1 f2) : ∃ cs, W.heap[g]? = some (.cells cs 95 (0, 0)) := by
  obtain ⟨A0, c0, hb, _⟩ := h
  exact ⟨_, hb⟩
/-- behind a call of the reader's -/
theorem lz_Un.read {w0 W W' : World} {g pm po : Nat} {l0 : List Int} {p p2 : Nat} {e e2 a1 : Int} {vo : Value} {out : List Int} (h : lz_Un w0 W g pm po l0 p e a1 vo out) (hI : IsS72 w0 W' g l0 p2 e2) (hb : Below w0.heap.size w0 W') (hk : KeepBut W W' g none) : lz_Un w0 W' g pm po l0 p2 e2 a1 vo out := by
  obtain ⟨cs, hg⟩ := h.rd.blk
  exact ⟨hI, hb, hk.blk h.m (blk_ne h.m hg (by decide)) (by simp), hk.blk h.o (blk_ne h.o hg (by decide)) (by simp), Kd.R_mono (Kd.R_keep (Kd.R_types h.out hg (by simp [Kd.E, Kd.int, Kd.scalar])) hk (fun _ hk => hk.2)) (fun _ _ => trivial), h.pob⟩
set_option maxHeartbeats 1000000 in
theorem lz_room_calls (w0 W : World) (g pm po : Nat) (l0 : List Int) (p : Nat) (e a1 n : Int) (vo : Value) (out : List Int) (h : lz_Un w0 W g pm po l0 p e a1 vo out) (ha : a1 ≤ 1000000) (ho : out.length ≤ 1000000) (r : Bool) (hr : decide (n ≤ max 0 a1 - out.length) = r) :
    Calls Tryd.prog 45 #[.int .i64 n, .pointer (some ⟨pm, 0, none⟩), .pointer (some ⟨po, 0, none⟩)] W fun e w' => e = .returned (.bool r) ∧ w' = W := by
  obtain ⟨A, c, hv, hc, hC⟩ := Kd.R_reads h.out
  have k1 : W.cell? ⟨pm, 0, none⟩ = some (.int .i64 a1) := blk_cell h.m 0
  have k2 : W.cell? ⟨po, 0, none⟩ = some vo := blk_cell h.o 0
  subst hv
  clear h hC
  by_cases h0 : 0 < a1
  · rw [show max 0 a1 = a1 by omega] at hr
    have HR := Lib.hid hr
    clear hr
    go_enter Tryd.func45, Tryd.ntmps45
    go_wp2
    go_ret
    exact ⟨by rw [← HR.out]; rfl, rfl⟩
  · rw [show max 0 a1 = 0 by omega, Int.zero_sub] at hr
    have h0 : a1 ≤ 0 := by omega
    have HR := Lib.hid hr
    clear hr
    go_enter Tryd.func45, Tryd.ntmps45
    go_wp2
    go_ret
    exact ⟨by rw [← HR.out]; rfl, rfl⟩
/-- .. and behind the append, ahead of the store -/
structure lz_UnA (w0 W : World) (g pm po : Nat) (l0 : List Int) (p : Nat) (e a1 : Int) (vo v1 : Value) (out1 : List Int) : Prop where
  rd : IsS72 w0 W g l0 p e
  hb : Below w0.heap.size w0 W
  m : W.heap[pm]? = some (.cells #[.int .i64 a1] 3 (0, 0))
  o : W.heap[po]? = some (.cells #[vo] 22 (0, 0))
  out : Kd.R (Kd.int .u8) 5 W w0.heap.size (fun _ => True) v1 out1
  pob : w0.heap.size ≤ po
theorem lz_Un.app {w0 W W' : World} {g pm po : Nat} {l0 : List Int} {p : Nat} {e a1 : Int} {vo v1 : Value} {out out1 : List Int} (h : lz_Un w0 W g pm po l0 p e a1 vo out) (hR : Kd.R (Kd.int .u8) 5 W' w0.heap.size (fun _ => True) v1 out1) (hb : Below w0.heap.size w0 W') (hg : W.grownBy W' vo.ownBlock) : lz_UnA w0 W' g pm po l0 p e a1 vo v1 out1 := by
  obtain ⟨A0, c0, hgb, hr⟩ := h.rd
  exact ⟨⟨A0, c0, (hg.block g (blk_lt hgb) (Kd.R_ne h.out hgb (by decide))).trans hgb, hr⟩, hb, (hg.block pm (blk_lt h.m) (Kd.R_ne h.out h.m (by decide))).trans h.m, (hg.block po (blk_lt h.o) (Kd.R_ne h.out h.o (by decide))).trans h.o, hR, h.pob⟩
theorem lz_UnA.store {w0 W : World} {g pm po : Nat} {l0 : List Int} {p : Nat} {e a1 : Int} {vo v1 : Value} {out1 : List Int} (h : lz_UnA w0 W g pm po l0 p e a1 vo v1 out1) : lz_Un w0 (W.setCell ⟨po, 0, none⟩ v1) g pm po l0 p e a1 v1 out1 := by
  obtain ⟨A0, c0, hgb, hr⟩ := h.rd
  exact ⟨⟨A0, c0, blk_far hgb (p := ⟨po, 0, none⟩) (blk_ne hgb h.o (by decide)) v1, hr⟩, h.hb.setCell h.pob _, blk_far h.m (p := ⟨po, 0, none⟩) (blk_ne h.m h.o (by decide)) v1, by simpa using blk_set h.o 0 v1, Kd.R_mono (Kd.R_set h.out h.o (by simp [Kd.E, Kd.int, Kd.scalar]) 0 _) (fun _ _ => trivial), h.pob⟩
theorem lz_wp_append {w0 W : World} {o : Oper} {a : Act} {K : Act → World → Prop} {Q : Exit → Act → World → Prop} (hgd : o.guard = none) (s x : Operand) (ho : o.op = .call { callee := .builtin .append, args := #[s, x], argTypes := #[22, 22] })
    (v : Value) (xs ys : List Int) (A : Option Addr) (c : Nat) (hs : a.eval s = v) (hx : a.eval x = .slice A ys.length c) (HO : Kd.R (Kd.int .u8) 5 W w0.heap.size (fun _ => True) v xs) (HR : Kd.C (Kd.int .u8) W A ys.length ys) (HB : Below w0.heap.size w0 W) (hl : xs.length + ys.length ≤ 4000000)
    (h : ∀ v1 w1, Kd.R (Kd.int .u8) 5 w1 w0.heap.size (fun _ => True) v1 (xs ++ ys) → Below w0.heap.size w0 w1 → W.grownBy w1 v.ownBlock → K (a.put o.dst v1) w1) : o.wp Tryd.prog a W K Q := by
  have hw : Region.wanted o (yielded (#[] : Array Oper) a.tmps) = true := by simp [Region.wanted, hgd]
  have := Kd.R_append_rows_step (P := Tryd.prog) (ops := #[]) (o := o) (a := a) (Kc := K) (Q := Q) (Kd.int .u8) (w0 := w0) (W := W) w0.heap.size hw s x 22 5 (.int .u8 0) 1 ho Tryd.underlying22 info5 rfl (by decide) (by decide) v xs ys A ys.length c (fun _ => True) (fun _ => False) hs hx HO HR (fun _ _ h => h) (fun _ hk => hk.elim) (fun _ _ => trivial) HB HB.size (by omega) (fun v1 w1 a1 a2 a3 _ => h v1 w1 a1 a2 a3)
  rwa [if_pos hw] at this
theorem lz_un_cell {w0 W : World} {g pm po j n cv : Nat} {l0 out : List Int} {p : Nat} {e a1 x : Int} {ad : Addr} (h : lz_Un w0 W g pm po l0 p e a1 (.slice (some ad) n cv) out) (hj : j < out.length) (hx : out.getD j 0 = x) : W.cell? (ad.add j) = some (.int .u8 x) := by
  obtain ⟨_, _, hC⟩ := Kd.R_reads' h.out
  obtain ⟨ad', e, hc⟩ := lz_get_cell hC j hj
  obtain rfl := Option.some.inj e
  rw [hc, hx]
theorem lz_memn (n : Nat) (l : List Nat) (h : (List.range n).all (fun j => decide (j ∈ l)) = true) (j : Nat) (hj : j < n) : j ∈ l := by
  have := List.all_eq_true.1 h j (List.mem_range.2 hj)
  simpa using this
theorem lz_un_po {b : Nat → Bool} {w0 W : World} {g pm po : Nat} {l0 bs out : List Int} {p p2 : Nat} {e e2 a1 : Int} {vo x95 x96 : Value} (h0 : b 5 = false → lz_Un w0 W g pm po l0 p e a1 vo out) (h1 : b 5 = true → b 6 = false → lz_Un w0 W g pm po l0 p2 e2 a1 vo out ∧ Kd.R (Kd.int .u8) 5 W w0.heap.size (fun _ => True) x95 bs) (h2 : b 6 = true → b 7 = false → lz_UnA w0 W g pm po l0 p2 e2 a1 vo x96 (out ++ bs)) (h7 : b 7 = false) : W.cell? ⟨po, 0, none⟩ = some vo := by
  cases h5 : b 5 with
  | false => exact blk_cell (h0 h5).o 0
  | true => cases h6 : b 6 with
    | false => exact blk_cell (h1 h5 h6).1.o 0
    | true => exact blk_cell (h2 h6 h7).o 0
theorem lz_un_po2 {b : Nat → Bool} {w0 W : World} {g pm po : Nat} {l0 out out1 : List Int} {p p2 : Nat} {e e2 a1 : Int} {vo x69 : Value} (h0 : b 10 = false → lz_Un w0 W g pm po l0 p e a1 vo out) (h2 : b 10 = true → b 11 = false → lz_UnA w0 W g pm po l0 p2 e2 a1 vo x69 out1) (h7 : b 11 = false) : W.cell? ⟨po, 0, none⟩ = some vo := by
  cases h5 : b 10 with
  | false => exact blk_cell (h0 h5).o 0
  | true => exact blk_cell (h2 h5 h7).o 0
theorem lz_un_cons (M : Int) (f : Nat) (k : Int) (t out : List Int) : lz_unF M (f + 1) (k :: t) out = if 128 ≤ k then ([], 4) else if k % 2 = 0 then
      (if M < out.length + (k / 2 + 1) then ([], 6) else if (t.length : Int) < k / 2 + 1 then ([], 3) else lz_unF M f (t.drop (k / 2 + 1).toNat) (out ++ t.take (k / 2 + 1).toNat))
    else
      (if (wire_vr t 10 0 0).2.2 ≠ 0 then ([], (wire_vr t 10 0 0).2.2) else if 2147483647 < (wire_vr t 10 0 0).1 then ([], 4) else if 4096 ≤ (wire_vr t 10 0 0).1 ∨ (out.length : Int) ≤ (wire_vr t 10 0 0).1 then ([], 4) else
       if M < out.length + (k / 2 + 3) then ([], 6) else lz_unF M f (t.drop (wire_vr t 10 0 0).2.1.toNat) (lz_copy (wire_vr t 10 0 0).1.toNat (k / 2 + 3).toNat out)) := by
  rw [lz_unF, if_neg (by simp)]
  rfl
theorem lz_un_nil (M : Int) (f : Nat) (out : List Int) : lz_unF M (f + 1) [] out = (out, 0) := by rw [lz_unF, if_pos rfl]
theorem lz_bytes_f (l : List Int) (p : Nat) (a : Int) (hp : p ≤ l.length) (h0 : 0 ≤ a) (hl : l.length ≤ 1000000) : wire_Reader_Bytes.f l p 0 a = if (l.length : Int) - p < a then some ([], (p : Int), 3) else some ((l.drop p).take a.toNat, (p : Int) + a, 0) := by
  unfold wire_Reader_Bytes.f
  rw [if_pos rfl, if_pos (by omega), if_neg (by omega), Int.toNat_natCast, List.length_drop]
  by_cases h : (l.length : Int) - p < a
  · rw [if_pos h, if_pos (by omega)]
  · rw [if_neg h, if_neg (by omega)]
def lz_posOf (W : World) (g : Nat) : Nat := match W.cell? ⟨g, 1, none⟩ with | some (.int _ p) => p.toNat | _ => 0
theorem lz_pos_at {w0 W : World} {g p : Nat} {l : List Int} {e : Int} (h : IsS72 w0 W g l p e) : lz_posOf W g = p := by
  obtain ⟨A0, c0, hb, _⟩ := h
  have : W.cell? ⟨g, 1, none⟩ = some (.int .i64 p) := cellS72_1 hb
  unfold lz_posOf
  rw [this]
  simp
def lz_unLoop (w0 W : World) (g pm po : Nat) (l0 : List Int) (a1 : Int) (R : List Int × Int) : Prop :=
  ∃ p vo out f, lz_Un w0 W g pm po l0 p 0 a1 vo out ∧ p ≤ l0.length ∧ (out.length : Int) ≤ max 0 a1 ∧ l0.length < f + p ∧ lz_unF (max 0 a1) f (l0.drop p) out = R
theorem lz_drop_cons {l : List Int} {p : Nat} (hp : p < l.length) : l.drop p = l.getD p 0 :: l.drop (p + 1) := by
  rw [List.drop_eq_getElem_cons hp]
  simp [hp]
theorem lz_bytes_one {l : List Int} {p : Nat} {k : Int} (hp : p < l.length) (hl : l.length ≤ 1000000) (hk : l.getD p 0 = k) : wire_Reader_Bytes.f l p 0 1 = some ([k], ((p + 1 : Nat) : Int), 0) := by
  rw [lz_bytes_f l p 1 (by omega) (by omega) hl, if_neg (by omega), lz_drop_cons hp, hk]
  rfl
theorem lz_byte_at {l : List Int} {p : Nat} (h : ∀ x ∈ l, 0 ≤ x ∧ x < 256) (hp : p < l.length) : 0 ≤ l.getD p 0 ∧ l.getD p 0 < 256 := h _ (by rw [List.getD_eq_getElem?_getD, List.getElem?_eq_getElem hp]; exact List.getElem_mem hp)
/-- what Bytes gives -/
theorem lz_bytes_any (l : List Int) (p : Nat) (m : Int) (hp : p ≤ l.length) (h0 : 0 ≤ m) (hl : l.length ≤ 1000000) : ∃ (bs : List Int) (p2 : Nat) (e2 : Int), wire_Reader_Bytes.f l p 0 m = some (bs, (p2 : Int), e2) ∧ p2 ≤ l.length ∧ ((e2 = 3 ∧ bs = [] ∧ (l.length : Int) - p < m) ∨ (e2 = 0 ∧ bs = (l.drop p).take m.toNat ∧ p2 = p + m.toNat ∧ m ≤ (l.length : Int) - p ∧ (bs.length : Int) = m)) := by
  rw [lz_bytes_f l p m hp h0 hl]
  by_cases h : (l.length : Int) - p < m
  · exact ⟨[], p, 3, by rw [if_pos h], hp, .inl ⟨rfl, rfl, h⟩⟩
  · refine ⟨(l.drop p).take m.toNat, p + m.toNat, 0, by rw [if_neg h]; congr 3; omega, by omega, .inr ⟨rfl, rfl, rfl, by omega, by rw [List.length_take, List.length_drop]; omega⟩⟩
theorem lz_vr_ok (l : List Int) (hk : ∀ x ∈ l, 0 ≤ x ∧ x < 256) : ∀ (k i : Nat) (n : Int), 0 ≤ n → 0 ≤ (wire_vr l k i n).1 ∧ ((wire_vr l k i n).2.2 ≠ 0 → (wire_vr l k i n).1 = 0)
  | 0, i, n, h => by simp [wire_vr]
  | k + 1, i, n, h => by
    rw [wire_vr]
    split
    · simp
    · rename_i h1
      have hb := lz_byte_at hk (p := i) (by omega)
      have hp : 0 ≤ (128 : Int) ^ i := Int.pow_nonneg (by decide)
      split
      · simp
      · split
        · exact ⟨Int.add_nonneg h (Int.mul_nonneg hb.1 hp), fun e => absurd rfl e⟩
        · exact lz_vr_ok l hk k (i + 1) _ (Int.add_nonneg h (Int.mul_nonneg (by omega) hp))
/-- what Int gives -/
theorem lz_int_any (l : List Int) (p : Nat) (hp : p ≤ l.length) (hl : l.length ≤ 1000000) (hk : ∀ x ∈ l, 0 ≤ x ∧ x < 256) : ∃ (far : Int) (p2 : Nat) (e2 : Int), wire_Reader_Int.f l p 0 = some (far, (p2 : Int), e2) ∧ p2 ≤ l.length ∧
    ((e2 ≠ 0 ∧ ((wire_vr (l.drop p) 10 0 0).2.2 = e2 ∨ ((wire_vr (l.drop p) 10 0 0).2.2 = 0 ∧ e2 = 4 ∧ 2147483647 < (wire_vr (l.drop p) 10 0 0).1))) ∨
     (e2 = 0 ∧ (wire_vr (l.drop p) 10 0 0).2.2 = 0 ∧ far = (wire_vr (l.drop p) 10 0 0).1 ∧ 0 ≤ far ∧ far ≤ 2147483647 ∧ p2 = p + (wire_vr (l.drop p) 10 0 0).2.1.toNat ∧ p ≤ p2)) := by
  have hkd : ∀ x ∈ l.drop p, 0 ≤ x ∧ x < 256 := fun x hx => hk x (List.mem_of_mem_drop hx)
  have hbs : wire_bytes (l.drop p) = true := by
    unfold wire_bytes
    rw [List.all_eq_true]
    intro x hx
    simpa using hkd x hx
  have hv : wire_varint.f (l.drop p) = some (wire_vr (l.drop p) 10 0 0) := by
    unfold wire_varint.f
    rw [if_pos ⟨hbs, by rw [List.length_drop]; omega⟩]
  have hok := lz_vr_ok (l.drop p) hkd 10 0 0 (by omega)
  have hlen := wire_vr_len (l.drop p) 10 0 0
  have hcnt := wire_vr_count (l.drop p) 10 0 0
  obtain ⟨⟨x, cnt, er⟩, hV⟩ : ∃ V, wire_vr (l.drop p) 10 0 0 = V := ⟨_, rfl⟩
  rw [hV] at hv hok hlen hcnt
  rw [hV]
  have hok : 0 ≤ x ∧ (er ≠ 0 → x = 0) := hok
  have hlen : cnt ≤ ((l.drop p).length : Int) := hlen
  have hcnt0 : 0 ≤ cnt := hcnt.1
  rw [List.length_drop] at hlen
  unfold wire_Reader_Int.f
  rw [if_pos rfl, if_pos (by omega), Int.toNat_natCast, hv]
  simp only [Option.bind_some]
  by_cases hm : 2147483647 < x
  · have her : er = 0 := by
      by_cases h : er = 0
      · exact h
      · have := hok.2 h; omega
    exact ⟨0, p, 4, by rw [if_pos hm], hp, .inl ⟨by decide, .inr ⟨her, rfl, hm⟩⟩⟩
  · rw [if_neg hm, if_pos hok.1]
    by_cases her : er = 0
    · subst her
      exact ⟨x, p + cnt.toNat, 0, by rw [if_pos rfl]; congr 3; omega, by omega, .inr ⟨rfl, rfl, rfl, hok.1, by omega, rfl, by omega⟩⟩
    · exact ⟨x, p, er, by rw [if_neg her], hp, .inl ⟨her, .inl rfl⟩⟩
theorem lz_un_err {l0 out : List Int} {p p2 f : Nat} {k far e2 M : Int} {R : List Int × Int} (hc : (e2 ≠ 0 ∧ ((wire_vr (l0.drop (p + 1)) 10 0 0).2.2 = e2 ∨ ((wire_vr (l0.drop (p + 1)) 10 0 0).2.2 = 0 ∧ e2 = 4 ∧ 2147483647 < (wire_vr (l0.drop (p + 1)) 10 0 0).1))) ∨
     (e2 = 0 ∧ (wire_vr (l0.drop (p + 1)) 10 0 0).2.2 = 0 ∧ far = (wire_vr (l0.drop (p + 1)) 10 0 0).1 ∧ 0 ≤ far ∧ far ≤ 2147483647 ∧ p2 = p + 1 + (wire_vr (l0.drop (p + 1)) 10 0 0).2.1.toNat ∧ p + 1 ≤ p2)) (he : ¬ e2 = 0)
    (hF : lz_unF M (f + 1) (l0.drop p) out = R) (hC : l0.drop p = k :: l0.drop (p + 1)) (h128 : ¬ 128 ≤ k) (hk2 : ¬ k % 2 = 0) : ([], e2) = R := by
  rw [← hF, hC, lz_un_cons, if_neg h128, if_neg hk2]
  rcases hc with ⟨_, h | ⟨h1, h2, h3⟩⟩ | ⟨h, _⟩
  · rw [if_pos (by rw [h]; exact he), h]
  · rw [if_neg (by rw [h1]; exact fun e => e rfl), if_pos h3, h2]
  · exact absurd h he
theorem lz_un_far {l0 : List Int} {p p2 : Nat} {far : Int} (hc : ((0 : Int) ≠ 0 ∧ ((wire_vr (l0.drop (p + 1)) 10 0 0).2.2 = 0 ∨ ((wire_vr (l0.drop (p + 1)) 10 0 0).2.2 = 0 ∧ (0 : Int) = 4 ∧ 2147483647 < (wire_vr (l0.drop (p + 1)) 10 0 0).1))) ∨
     ((0 : Int) = 0 ∧ (wire_vr (l0.drop (p + 1)) 10 0 0).2.2 = 0 ∧ far = (wire_vr (l0.drop (p + 1)) 10 0 0).1 ∧ 0 ≤ far ∧ far ≤ 2147483647 ∧ p2 = p + 1 + (wire_vr (l0.drop (p + 1)) 10 0 0).2.1.toNat ∧ p + 1 ≤ p2)) :
    (wire_vr (l0.drop (p + 1)) 10 0 0).2.2 = 0 ∧ (far = (wire_vr (l0.drop (p + 1)) 10 0 0).1 ∧ p2 = p + 1 + (wire_vr (l0.drop (p + 1)) 10 0 0).2.1.toNat) ∧ far ≤ 2147483647 ∧ p + 1 ≤ p2 := by
  rcases hc with ⟨h, _⟩ | ⟨_, h1, h2, h3, h4, h5, h6⟩
  · exact absurd rfl h
  · exact ⟨h1, ⟨h2, h5⟩, h4, h6⟩
theorem lz_un_far_bad {l0 out : List Int} {p p2 f : Nat} {k far M : Int} {R : List Int × Int} (h1 : (wire_vr (l0.drop (p + 1)) 10 0 0).2.2 = 0) (h2 : far = (wire_vr (l0.drop (p + 1)) 10 0 0).1 ∧ p2 = p + 1 + (wire_vr (l0.drop (p + 1)) 10 0 0).2.1.toNat) (h3 : far ≤ 2147483647) (hb : 4096 ≤ far ∨ (out.length : Int) ≤ far)
    (hF : lz_unF M (f + 1) (l0.drop p) out = R) (hC : l0.drop p = k :: l0.drop (p + 1)) (h128 : ¬ 128 ≤ k) (hk2 : ¬ k % 2 = 0) : ([], 4) = R := by
  rw [← hF, hC, lz_un_cons, if_neg h128, if_neg hk2, if_neg (by rw [h1]; exact fun e => e rfl), ← h2.1, if_neg (by omega), if_pos hb]
theorem lz_un_far_full {l0 out : List Int} {p p2 f : Nat} {k far M : Int} {R : List Int × Int} (h1 : (wire_vr (l0.drop (p + 1)) 10 0 0).2.2 = 0) (h2 : far = (wire_vr (l0.drop (p + 1)) 10 0 0).1 ∧ p2 = p + 1 + (wire_vr (l0.drop (p + 1)) 10 0 0).2.1.toNat) (h3 : far ≤ 2147483647) (h4 : ¬ 4096 ≤ far) (h5 : ¬ (out.length : Int) ≤ far) (h6 : M < out.length + (k / 2 + 3))
    (hF : lz_unF M (f + 1) (l0.drop p) out = R) (hC : l0.drop p = k :: l0.drop (p + 1)) (h128 : ¬ 128 ≤ k) (hk2 : ¬ k % 2 = 0) : ([], 6) = R := by
  rw [← hF, hC, lz_un_cons, if_neg h128, if_neg hk2, if_neg (by rw [h1]; exact fun e => e rfl), ← h2.1, if_neg (by omega), if_neg (fun e => e.elim h4 h5), if_pos h6]
theorem lz_un_far_go {l0 out : List Int} {p p2 f : Nat} {k far M : Int} {R : List Int × Int} (h1 : (wire_vr (l0.drop (p + 1)) 10 0 0).2.2 = 0) (h2 : far = (wire_vr (l0.drop (p + 1)) 10 0 0).1 ∧ p2 = p + 1 + (wire_vr (l0.drop (p + 1)) 10 0 0).2.1.toNat) (h3 : far ≤ 2147483647) (h4 : ¬ 4096 ≤ far) (h5 : ¬ (out.length : Int) ≤ far) (h6 : ¬ M < out.length + (k / 2 + 3))
    (hF : lz_unF M (f + 1) (l0.drop p) out = R) (hC : l0.drop p = k :: l0.drop (p + 1)) (h128 : ¬ 128 ≤ k) (hk2 : ¬ k % 2 = 0) : lz_unF M f (l0.drop p2) (lz_copy far.toNat (k / 2 + 3).toNat out) = R := by
  rw [← hF, hC, lz_un_cons, if_neg h128, if_neg hk2, if_neg (by rw [h1]; exact fun e => e rfl), ← h2.1, if_neg (by omega), if_neg (fun e => e.elim h4 h5), if_neg h6, List.drop_drop, h2.2]
theorem lz_R_one {W : World} {B : Nat} {v : Value} {k : Int} (h : Kd.R (Kd.int .u8) 5 W B (fun _ => True) v [k]) : ∃ ad c, v = .slice (some ad) 1 c ∧ W.cell? ad = some (.int .u8 k) := by
  obtain ⟨A, c, hv, hc, hC⟩ := Kd.R_reads h
  obtain ⟨ad, rfl, hcell⟩ := lz_get_cell hC 0 (by simp)
  exact ⟨ad, c, hv, by simpa [Addr.add] using hcell⟩
theorem lz_un_lit {w0 W w' : World} {g pm po : Nat} {l0 bs out : List Int} {p p2 f : Nat} {k e2 a1 : Int} {v : Value} {R : List Int × Int} (hc : (e2 = 3 ∧ bs = [] ∧ (l0.length : Int) - ((p + 1 : Nat) : Int) < k / 2 + 1) ∨ (e2 = 0 ∧ bs = (l0.drop (p + 1)).take (k / 2 + 1).toNat ∧ p2 = p + 1 + (k / 2 + 1).toNat ∧ k / 2 + 1 ≤ (l0.length : Int) - ((p + 1 : Nat) : Int) ∧ (bs.length : Int) = k / 2 + 1)) (he : e2 = 0)
    (hF : lz_unF (max 0 a1) (f + 1) (l0.drop p) out = R) (hC : l0.drop p = k :: l0.drop (p + 1)) (h128 : ¬ 128 ≤ k) (hk2 : k % 2 = 0) (hroom : k / 2 + 1 ≤ max 0 a1 - out.length) (hU : lz_Un w0 w' g pm po l0 p2 e2 a1 v (out ++ bs)) (hp2 : p2 ≤ l0.length) (ho : (out.length : Int) ≤ max 0 a1) (hlt : p < l0.length) (hf : l0.length < f + 1 + p) (hP : lz_posOf W g = p) (hk0 : 0 ≤ k) :
    Hid (lz_unLoop w0 w' g pm po l0 a1 R) ∧ l0.length - lz_posOf w' g < l0.length - lz_posOf W g := by
  subst he
  rcases hc with ⟨h, _⟩ | ⟨_, hbs, hp2', hle, hbl⟩
  · exact absurd h (by decide)
  · refine ⟨Lib.hid ⟨p2, v, out ++ bs, f, hU, hp2, by simp only [List.length_append]; omega, by omega, ?_⟩, by rw [lz_pos_at hU.rd, hP]; omega⟩
    rw [← hF, hC, lz_un_cons, if_neg h128, if_pos hk2, if_neg (by omega), if_neg (by rw [List.length_drop]; omega), hbs, List.drop_drop, hp2']
theorem lz_un_lit3 {l0 bs out : List Int} {p p2 f : Nat} {k e2 a1 : Int} {R : List Int × Int} (hc : (e2 = 3 ∧ bs = [] ∧ (l0.length : Int) - ((p + 1 : Nat) : Int) < k / 2 + 1) ∨ (e2 = 0 ∧ bs = (l0.drop (p + 1)).take (k / 2 + 1).toNat ∧ p2 = p + 1 + (k / 2 + 1).toNat ∧ k / 2 + 1 ≤ (l0.length : Int) - ((p + 1 : Nat) : Int) ∧ (bs.length : Int) = k / 2 + 1)) (he : ¬ e2 = 0)
    (hF : lz_unF (max 0 a1) (f + 1) (l0.drop p) out = R) (hC : l0.drop p = k :: l0.drop (p + 1)) (h128 : ¬ 128 ≤ k) (hk2 : k % 2 = 0) (hroom : k / 2 + 1 ≤ max 0 a1 - out.length) (hk0 : 0 ≤ k) : ([], e2) = R := by
  rcases hc with ⟨h, _, hs⟩ | ⟨h, _⟩
  · rw [← hF, hC, lz_un_cons, if_neg h128, if_pos hk2, if_neg (by omega), if_pos (by rw [List.length_drop]; omega), h]
  · exact absurd h he
theorem lz_un_next {w0 W w' : World} {g pm po : Nat} {l0 out out1 TG : List Int} {p p2 f N farN : Nat} {a1 : Int} {v : Value} {R : List Int × Int} (hU : lz_Un w0 w' g pm po l0 p2 0 a1 v out1) (hT : lz_copy farN (N - N) out1 = TG) (hE : lz_unF (max 0 a1) f (l0.drop p2) TG = R) (hol : out1.length = out.length + N) (hroom : (N : Int) ≤ max 0 a1 - out.length) (hpp : p + 1 ≤ p2) (hp2 : p2 ≤ l0.length) (hlt : p < l0.length) (hf : l0.length < f + 1 + p) (hP : lz_posOf W g = p) :
    Hid (lz_unLoop w0 w' g pm po l0 a1 R) ∧ l0.length - lz_posOf w' g < l0.length - lz_posOf W g := by
  rw [Nat.sub_self] at hT
  have hT : out1 = TG := hT
  subst hT
  exact ⟨Lib.hid ⟨p2, v, out1, f, hU, hp2, by omega, by omega, hE⟩, by rw [lz_pos_at hU.rd, hP]; omega⟩
theorem lz_un_far2 {l0 : List Int} {p p2 : Nat} {far : Int} (h : far = (wire_vr (l0.drop (p + 1)) 10 0 0).1 ∧ p2 = p + 1 + (wire_vr (l0.drop (p + 1)) 10 0 0).2.1.toNat) : p + 1 ≤ p2 := by omega
theorem lz_copy_step {farN N i j : Nat} {out TG : List Int} {x : Int} (hin : i < N) (hj : out.length = j + 1 + farN) (hx : out.getD j 0 = x) (h : lz_copy farN (N - i) out = TG) : lz_copy farN (N - (i + 1)) (out ++ [x]) = TG := by
  rw [show N - i = (N - (i + 1)) + 1 by omega] at h
  have h : lz_copy farN (N - (i + 1)) (out ++ [out.getD (out.length - 1 - farN) 0]) = TG := h
  rw [show out.length - 1 - farN = j by omega, hx] at h
  exact h
theorem lz_R_some {B : Nat} {W : World} {v : Value} {xs : List Int} (h : Kd.R (Kd.int .u8) 5 W B (fun _ => True) v xs) (hx : 0 < xs.length) : ∃ ad cap, v = .slice (some ad) xs.length cap := by
  rcases (Kd.own_of_R h).2 with ⟨rfl, hn⟩ | ⟨g', cap, cur, rfl, _⟩
  · omega
  · exact ⟨⟨g', 0, none⟩, cap, rfl⟩
def lz_UnPost (w0 w' : World) (e : Ending) (R : List Int × Int) : Prop := ∃ v, e = .returned (.tuple #[v, .int .i64 R.2]) ∧ Kd.R (Kd.int .u8) 5 w' w0.heap.size (fun _ => True) v R.1 ∧ Below w0.heap.size w0 w'
theorem lz_un_ret {w0 w' : World} {x : Int} {R : List Int × Int} (h : ([], x) = R) (hb : Below w0.heap.size w0 w') : lz_UnPost w0 w' (.returned (.tuple #[.slice none 0 0, .int .i64 x])) R := by
  subst h
  exact ⟨_, rfl, Kd.R_nil _ _ _ _ _, hb⟩
set_option maxHeartbeats 8000000 in
set_option maxRecDepth 100000 in
theorem lz_Unpack_calls (A : Option Addr) (c : Nat) (l0 : List Int) (a1 : Int) (w0 : World) (hC : Kd.C (Kd.int .u8) w0 A l0.length l0) (hc : l0.length ≤ c) (hl : l0.length ≤ 1000000) (ha : a1 ≤ 1000000) (hkb : ∀ x ∈ l0, 0 ≤ x ∧ x < 256) (R : List Int × Int) (hR : lz_unF (max 0 a1) (l0.length + 1) l0 [] = R) :
    Calls Tryd.prog 26 #[.slice A l0.length c, .int .i64 a1] w0 fun e w' => lz_UnPost w0 w' e R := by
  have hm : (w0.alloc (.cells #[.int .i64 a1] 3)).heap[w0.heap.size]? = some (.cells #[.int .i64 a1] 3 (0, 0)) := heap_alloc_new _ _
  have hB0 : Below w0.heap.size w0 (w0.alloc (.cells #[.int .i64 a1] 3)) := below_alloc (Below.refl _ _) _
  have OF := wire_Of.calls A c l0 l0 0 0 w0 _ hB0 hC hc rfl
  have HM := Lib.hid hm
  have HR := Lib.hid hR
  have HK := Lib.hid hkb
  have HOF := Lib.hid OF
  clear hC hm hR hkb hB0 OF
  go_enter Tryd.func26, Tryd.ntmps26
  go_wp2_with fail
  refine HOF.out.mono ?_; rintro e w1 ⟨g, rfl, hI, hB1, hB2⟩
  have hm1 : w1.heap[w0.heap.size]? = some (.cells #[.int .i64 a1] 3 (0, 0)) := (hB2.block _ (blk_lt HM.out)).trans HM.out
  have hb3 := below_alloc (Below.refl w1.heap.size w1) (.cells #[.slice none 0 0] 22)
  have HI : Hid (lz_unLoop w0 (w1.alloc (.cells #[.slice none 0 0] 22)) g w0.heap.size w1.heap.size l0 a1 R) := Lib.hid ⟨0, .slice none 0 0, [], l0.length + 1,
    ⟨hI.below hb3, below_alloc hB1 _, (hb3.block _ (blk_lt hm1)).trans hm1, heap_alloc_new _ _, Kd.R_nil _ _ _ _ _, hB1.size⟩, by omega, by simp; omega, by omega, HR.out⟩
  clear hI hB1 hB2 hm1 hb3 HOF
  go_wp2_with fail
  obtain ⟨pm, hpm⟩ : ∃ pm, w0.heap.size = pm := ⟨_, rfl⟩
  obtain ⟨po, hpo⟩ : ∃ po, w1.heap.size = po := ⟨_, rfl⟩
  rw [hpm, hpo] at HI ⊢
  clear hpm hpo HM
  go_loopw [9] (fun _ wr => Hid (lz_unLoop w0 wr g pm po l0 a1 R)) (fun _ wr => l0.length - lz_posOf wr g)
  case atStart => exact HI
  case round =>
    have HP := hrel
    obtain ⟨p, vo, out, f, hU, hp, ho, hf, hF⟩ := HP.out
    have HPOS : Hid (lz_posOf wr g = p) := Lib.hid (lz_pos_at hU.rd)
    have HU := Lib.hid hU
    have HF := Lib.hid hF
    have LF := Lib.hid (wire_Left_ro g l0 p 0 w0 wr hU.rd (by omega) (by omega))
    clear hU hF
    obtain ⟨f, rfl⟩ : ∃ f', f = f' + 1 := ⟨f - 1, by omega⟩
    by_cases hlt : p < l0.length
    · have d0 : decide ((0 : Int) < (l0.length : Int) - p) = true := by simp; omega
      go_wp2_with fail
      refine LF.out.mono ?_; rintro e w2 ⟨rfl, n2, rfl⟩
      obtain ⟨k, hk⟩ : ∃ k, l0.getD p 0 = k := ⟨_, rfl⟩
      have hkr : 0 ≤ k ∧ k < 256 := by rw [← hk]; exact lz_byte_at HK.out hlt
      have hcons := lz_drop_cons hlt
      rw [hk] at hcons
      have hbf : wire_Reader_Bytes.f l0 p 0 1 = some ([k], ((p + 1 : Nat) : Int), 0) := lz_bytes_one hlt hl hk
      have hU2 := HU.out.next (pw_below_drewN (Below.refl wr.heap.size wr) n2)
      have BY := Lib.hid (wire_Reader_Bytes.calls g l0 p 0 1 _ _ _ w0 _ hU2.rd hU2.hb hbf)
      have HCONS := Lib.hid hcons
      have HU2 := Lib.hid hU2
      clear hk hcons hbf hU2
      go_wp2_with fail
      refine BY.out.mono ?_; rintro e w3 ⟨v0, rfl, hRv, hI3, hB3, hK3⟩
      have hU3 := HU2.out.read (p2 := p + 1) hI3 hB3 hK3
      obtain ⟨ad, cv, hv0, hkc⟩ := lz_R_one hRv
      subst hv0
      have HU3 := Lib.hid hU3
      clear hRv hI3 hB3 hK3 hU3 BY HU2
      by_cases h128 : 128 ≤ k
      · have d1 : decide ((128 : Int) ≤ k) = true := by simp; omega
        have HE : Hid (([], 4) = R) := Lib.hid (by rw [← HF.out, HCONS.out, lz_un_cons, if_pos h128])
        go_wp2_with fail
        go_ret2
        exact lz_un_ret HE.out HU3.out.hb
      · have d1 : decide ((128 : Int) ≤ k) = false := by simp; omega
        by_cases hk2 : k % 2 = 0
        · have d2 : (k % 2 == 0) = true := by simp [hk2]
          have HK2 := Lib.hid hk2
          clear hk2
          by_cases hroom : k / 2 + 1 ≤ max 0 a1 - out.length
          · as_aux_lemma =>
              have RM := Lib.hid (lz_room_calls w0 w3 g pm po l0 (p + 1) 0 a1 (k / 2 + 1) vo out HU3.out ha (by omega) true (by simp; omega))
              obtain ⟨bs, p2, e2, hbf, hp2, hcase⟩ := lz_bytes_any l0 (p + 1) (k / 2 + 1) (by omega) (by omega) hl
              have hbsl : bs.length ≤ 128 := by rcases hcase with ⟨_, h, _⟩ | ⟨_, _, _, _, h⟩; (rw [h]; simp); omega
              have HBF := Lib.hid hbf
              have HCASE := Lib.hid hcase
              have HU4 := HU3
              clear hbf hcase
              go_wp2_with fail
              refine RM.out.mono ?_; rintro e w4 ⟨rfl, rfl⟩
              go_wp2_with fail
              refine wp_region_inv (fun a0 w_0 b a' w' => ∃ x90 x91 x92 x93 x94 x95 x96 : Value, a' = (((((((a0.put (some 90) x90).put (some 91) x91).put (some 92) x92).put (some 93) x93).put (some 94) x94).put (some 95) x95).put (some 96) x96) ∧ (b 5 = false → lz_Un w0 w' g pm po l0 (p + 1) 0 a1 vo out) ∧ (b 5 = true → b 6 = false → lz_Un w0 w' g pm po l0 p2 e2 a1 vo out ∧ Kd.R (Kd.int .u8) 5 w' w0.heap.size (fun _ => True) x95 bs) ∧ (b 6 = true → b 7 = false → lz_UnA w0 w' g pm po l0 p2 e2 a1 vo x96 (out ++ bs)) ∧ (b 7 = true → lz_Un w0 w' g pm po l0 p2 e2 a1 x96 (out ++ bs)) ∧ (b 6 = true → b 5 = true) ∧ (b 7 = true → ∀ j, j < 7 → b j = true) ∧ (b 0 = true → x90 = vo) ∧ (b 1 = true → x91 = .pointer (some ⟨g, 0, none⟩)) ∧ (b 2 = true → x92 = .int .i64 k) ∧ (b 3 = true → x93 = .int .i64 (k / 2)) ∧ (b 4 = true → x94 = .int .i64 (k / 2 + 1))) (by kernel_rfl) (by kernel_rfl) ?start ⟨?op0, ?op1, ?op2, ?op3, ?op4, ?op5, ?op6, ?op7, trivial⟩ ?done
              case start => exact ⟨_, _, _, _, _, _, _, by simp only [Act.put, List.setIfInBounds_toArray, List.set_cons_zero, List.set_cons_succ]; rfl, fun _ => HU4.out.next (below_drew1 (Below.refl _ _)), fun h => absurd h (by decide), fun h => absurd h (by decide), fun h => absurd h (by decide), fun h => absurd h (by decide), fun h => absurd h (by decide), fun h => absurd h (by decide), fun h => absurd h (by decide), fun h => absurd h (by decide), fun h => absurd h (by decide), fun h => absurd h (by decide)⟩
              case op0 =>
                rintro bb _ w' ⟨x90, x91, x92, x93, x94, x95, x96, rfl, U0, U1, U2, U3, Q6, Q7, p90, p91, p92, p93, p94⟩ hb hd K hK
                simp only [Act.put, List.setIfInBounds_toArray, List.set_cons_zero, List.set_cons_succ]
                rw [if_pos (by rfl)]
                have h7 : bb 7 = false := by cases h : bb 7 with | false => rfl | true => exact absurd (Q7 h 0 (by decide)) (by rw [hb]; decide)
                have hpo : w'.cell? ⟨po, 0, none⟩ = some vo := lz_un_po U0 U1 U2 h7
                go_simp
                exact hK _ _ ⟨vo, x91, x92, x93, x94, x95, x96, by simp only [Act.put, List.setIfInBounds_toArray, List.set_cons_zero, List.set_cons_succ], fun h => U0 (by simpa [upb] using h), fun h h2 => U1 (by simpa [upb] using h) (by simpa [upb] using h2), fun h h2 => U2 (by simpa [upb] using h) (by simpa [upb] using h2), fun h => absurd h (by simp [upb, h7]), fun h => lz_upb (Q6 (by simpa [upb] using h)), fun h => absurd h (by simp [upb, h7]), fun _ => rfl, fun h => p91 (by simpa [upb] using h), fun h => p92 (by simpa [upb] using h), fun h => p93 (by simpa [upb] using h), fun h => p94 (by simpa [upb] using h)⟩
              case op1 =>
                rintro bb _ w' ⟨x90, x91, x92, x93, x94, x95, x96, rfl, U0, U1, U2, U3, Q6, Q7, p90, p91, p92, p93, p94⟩ hb hd K hK
                simp only [Act.put, List.setIfInBounds_toArray, List.set_cons_zero, List.set_cons_succ]
                rw [if_pos (by rfl)]
                have h7 : bb 7 = false := by cases h : bb 7 with | false => rfl | true => exact absurd (Q7 h 1 (by decide)) (by rw [hb]; decide)
                go_simp
                exact hK _ _ ⟨x90, .pointer (some ⟨g, 0, none⟩), x92, x93, x94, x95, x96, by simp only [Act.put, List.setIfInBounds_toArray, List.set_cons_zero, List.set_cons_succ], fun h => U0 (by simpa [upb] using h), fun h h2 => U1 (by simpa [upb] using h) (by simpa [upb] using h2), fun h h2 => U2 (by simpa [upb] using h) (by simpa [upb] using h2), fun h => absurd h (by simp [upb, h7]), fun h => lz_upb (Q6 (by simpa [upb] using h)), fun h => absurd h (by simp [upb, h7]), fun h => p90 (by simpa [upb] using h), fun _ => rfl, fun h => p92 (by simpa [upb] using h), fun h => p93 (by simpa [upb] using h), fun h => p94 (by simpa [upb] using h)⟩
              case op2 =>
                rintro bb _ w' ⟨x90, x91, x92, x93, x94, x95, x96, rfl, U0, U1, U2, U3, Q6, Q7, p90, p91, p92, p93, p94⟩ hb hd K hK
                simp only [Act.put, List.setIfInBounds_toArray, List.set_cons_zero, List.set_cons_succ]
                rw [if_pos (by rfl)]
                have h7 : bb 7 = false := by cases h : bb 7 with | false => rfl | true => exact absurd (Q7 h 2 (by decide)) (by rw [hb]; decide)
                go_simp
                exact hK _ _ ⟨x90, x91, .int .i64 k, x93, x94, x95, x96, by simp only [Act.put, List.setIfInBounds_toArray, List.set_cons_zero, List.set_cons_succ], fun h => U0 (by simpa [upb] using h), fun h h2 => U1 (by simpa [upb] using h) (by simpa [upb] using h2), fun h h2 => U2 (by simpa [upb] using h) (by simpa [upb] using h2), fun h => absurd h (by simp [upb, h7]), fun h => lz_upb (Q6 (by simpa [upb] using h)), fun h => absurd h (by simp [upb, h7]), fun h => p90 (by simpa [upb] using h), fun h => p91 (by simpa [upb] using h), fun _ => rfl, fun h => p93 (by simpa [upb] using h), fun h => p94 (by simpa [upb] using h)⟩
              case op3 =>
                rintro bb _ w' ⟨x90, x91, x92, x93, x94, x95, x96, rfl, U0, U1, U2, U3, Q6, Q7, p90, p91, p92, p93, p94⟩ hb hd K hK
                simp only [Act.put, List.setIfInBounds_toArray, List.set_cons_zero, List.set_cons_succ]
                obtain rfl := (p92 (hd 2 (by decide))).symm
                rw [if_pos (by rfl)]
                have h7 : bb 7 = false := by cases h : bb 7 with | false => rfl | true => exact absurd (Q7 h 3 (by decide)) (by rw [hb]; decide)
                have hq : k.tdiv 2 = k / 2 := Int.tdiv_eq_ediv_of_nonneg (by omega)
                have hw : IntKind.i64.wrap (k / 2) = k / 2 := IntWalk.i64_in _ (by omega)
                go_simp
                exact hK _ _ ⟨x90, x91, .int .i64 k, .int .i64 (k / 2), x94, x95, x96, by simp only [Act.put, List.setIfInBounds_toArray, List.set_cons_zero, List.set_cons_succ], fun h => U0 (by simpa [upb] using h), fun h h2 => U1 (by simpa [upb] using h) (by simpa [upb] using h2), fun h h2 => U2 (by simpa [upb] using h) (by simpa [upb] using h2), fun h => absurd h (by simp [upb, h7]), fun h => lz_upb (Q6 (by simpa [upb] using h)), fun h => absurd h (by simp [upb, h7]), fun h => p90 (by simpa [upb] using h), fun h => p91 (by simpa [upb] using h), fun _ => rfl, fun _ => rfl, fun h => p94 (by simpa [upb] using h)⟩
              case op4 =>
                rintro bb _ w' ⟨x90, x91, x92, x93, x94, x95, x96, rfl, U0, U1, U2, U3, Q6, Q7, p90, p91, p92, p93, p94⟩ hb hd K hK
                simp only [Act.put, List.setIfInBounds_toArray, List.set_cons_zero, List.set_cons_succ]
                obtain rfl := (p93 (hd 3 (by decide))).symm
                rw [if_pos (by rfl)]
                have h7 : bb 7 = false := by cases h : bb 7 with | false => rfl | true => exact absurd (Q7 h 4 (by decide)) (by rw [hb]; decide)
                have hw : IntKind.i64.wrap (k / 2 + 1) = k / 2 + 1 := IntWalk.i64_in _ (by omega)
                go_simp
                exact hK _ _ ⟨x90, x91, x92, .int .i64 (k / 2), .int .i64 (k / 2 + 1), x95, x96, by simp only [Act.put, List.setIfInBounds_toArray, List.set_cons_zero, List.set_cons_succ], fun h => U0 (by simpa [upb] using h), fun h h2 => U1 (by simpa [upb] using h) (by simpa [upb] using h2), fun h h2 => U2 (by simpa [upb] using h) (by simpa [upb] using h2), fun h => absurd h (by simp [upb, h7]), fun h => lz_upb (Q6 (by simpa [upb] using h)), fun h => absurd h (by simp [upb, h7]), fun h => p90 (by simpa [upb] using h), fun h => p91 (by simpa [upb] using h), fun h => p92 (by simpa [upb] using h), fun _ => rfl, fun _ => rfl⟩
              case op5 =>
                rintro bb _ w' ⟨x90, x91, x92, x93, x94, x95, x96, rfl, U0, U1, U2, U3, Q6, Q7, p90, p91, p92, p93, p94⟩ hb hd K hK
                simp only [Act.put, List.setIfInBounds_toArray, List.set_cons_zero, List.set_cons_succ]
                obtain rfl := (p91 (hd 1 (by decide))).symm
                obtain rfl := (p94 (hd 4 (by decide))).symm
                rw [if_pos (by rfl)]
                have h7 : bb 7 = false := by cases h : bb 7 with | false => rfl | true => exact absurd (Q7 h 5 (by decide)) (by rw [hb]; decide)
                have hU4 := U0 hb
                have hBy := wire_Reader_Bytes.calls g l0 ((p + 1 : Nat) : Int) 0 (k / 2 + 1) _ _ _ w0 w' hU4.rd hU4.hb HBF.out
                go_simp
                refine hBy.mono ?_; rintro e w4 ⟨v4, rfl, hR4, hI4, hB4, hK4⟩
                have hU5 : lz_Un w0 w4 g pm po l0 p2 e2 a1 vo out ∧ Kd.R (Kd.int .u8) 5 w4 w0.heap.size (fun _ => True) v4 bs := ⟨hU4.read hI4 hB4 hK4, Kd.R_lower hR4 hU4.hb.size⟩
                try dsimp only
                exact hK _ _ ⟨x90, .pointer (some ⟨g, 0, none⟩), x92, x93, .int .i64 (k / 2 + 1), v4, x96, by simp only [Act.put, List.setIfInBounds_toArray, List.set_cons_zero, List.set_cons_succ], fun h => absurd h (by simp [upb]), fun _ _ => hU5, fun h => absurd (Q6 (by simpa [upb] using h)) (by rw [hb]; decide), fun h => absurd h (by simp [upb, h7]), fun _ => by simp [upb], fun h => absurd h (by simp [upb, h7]), fun h => p90 (by simpa [upb] using h), fun _ => rfl, fun h => p92 (by simpa [upb] using h), fun h => p93 (by simpa [upb] using h), fun _ => rfl⟩
              case op6 =>
                rintro bb _ w' ⟨x90, x91, x92, x93, x94, x95, x96, rfl, U0, U1, U2, U3, Q6, Q7, p90, p91, p92, p93, p94⟩ hb hd K hK
                simp only [Act.put, List.setIfInBounds_toArray, List.set_cons_zero, List.set_cons_succ]
                obtain rfl := (p90 (hd 0 (by decide))).symm
                rw [if_pos (by rfl)]
                have h7 : bb 7 = false := by cases h : bb 7 with | false => rfl | true => exact absurd (Q7 h 6 (by decide)) (by rw [hb]; decide)
                obtain ⟨hU5, hR5⟩ := U1 (hd 5 (by decide)) hb
                obtain ⟨a5, c5, e5, hc5, hC5⟩ := Kd.R_reads hR5
                subst e5
                refine lz_wp_append (w0 := w0) rfl (.tmp 90) (.tmp 95) rfl vo out bs a5 c5 (by rfl) (by rfl) hU5.out hC5 hU5.hb (by omega) ?_
                intro v6 w6 hR6 hB6 hg6
                have hU6 := hU5.app hR6 hB6 hg6
                exact hK _ _ ⟨vo, x91, x92, x93, x94, .slice a5 bs.length c5, v6, by simp only [Act.put, List.setIfInBounds_toArray, List.set_cons_zero, List.set_cons_succ], fun h => absurd (hd 5 (by decide)) (by simpa [upb] using h), fun _ h => absurd h (by simp [upb]), fun _ _ => hU6, fun h => absurd h (by simp [upb, h7]), fun _ => lz_upb (hd 5 (by decide)), fun h => absurd h (by simp [upb, h7]), fun _ => rfl, fun h => p91 (by simpa [upb] using h), fun h => p92 (by simpa [upb] using h), fun h => p93 (by simpa [upb] using h), fun h => p94 (by simpa [upb] using h)⟩
              case op7 =>
                rintro bb _ w' ⟨x90, x91, x92, x93, x94, x95, x96, rfl, U0, U1, U2, U3, Q6, Q7, p90, p91, p92, p93, p94⟩ hb hd K hK
                simp only [Act.put, List.setIfInBounds_toArray, List.set_cons_zero, List.set_cons_succ]
                rw [if_pos (by rfl)]
                have hU6 := U2 (hd 6 (by decide)) hb
                have hU7 := hU6.store
                have hc3 : w'.cell? ⟨po, 0, none⟩ = some vo := blk_cell hU6.o 0
                have hf3 : w'.frozen? ⟨po, 0, none⟩ = false := blk_frozen hU6.o 0
                obtain ⟨a6, c6, e6, -, -⟩ := Kd.R_reads hU6.out
                obtain ⟨n6, hn6⟩ : ∃ n6, (out ++ bs).length = n6 := ⟨_, rfl⟩
                rw [hn6] at e6
                subst e6
                go_simp
                exact hK _ _ ⟨x90, x91, x92, x93, x94, x95, .slice a6 n6 c6, by simp only [Act.put, List.setIfInBounds_toArray, List.set_cons_zero, List.set_cons_succ], fun h => absurd (hd 5 (by decide)) (by simpa [upb] using h), fun _ h => absurd (hd 6 (by decide)) (by simpa [upb] using h), fun _ h => absurd h (by simp [upb]), fun _ => hU7, fun h => lz_upb (Q6 (by simpa [upb] using h)), fun _ j hj => lz_upb (hd j (lz_memn 7 _ (by decide) j hj)), fun h => p90 (by simpa [upb] using h), fun h => p91 (by simpa [upb] using h), fun h => p92 (by simpa [upb] using h), fun h => p93 (by simpa [upb] using h), fun h => p94 (by simpa [upb] using h)⟩
              case done =>
                rintro bb _ w' hb ⟨x90, x91, x92, x93, x94, x95, x96, rfl, U0, U1, U2, U3, Q6, Q7, p90, p91, p92, p93, p94⟩
                obtain rfl := (p90 (hb 0 (by decide))).symm
                obtain rfl := (p91 (hb 1 (by decide))).symm
                obtain rfl := (p92 (hb 2 (by decide))).symm
                obtain rfl := (p93 (hb 3 (by decide))).symm
                obtain rfl := (p94 (hb 4 (by decide))).symm
                simp only [Act.put, List.setIfInBounds_toArray, List.set_cons_zero, List.set_cons_succ]
                have HU8 := Lib.hid (U3 (hb 7 (by decide)))
                clear U0 U1 U2 U3 Q6 Q7 hb
                have hE := wire_Err_ro g l0 (p2 : Int) e2 w0 w' HU8.out.rd
                have HER := Lib.hid hE
                clear hE
                go_wp2_with fail
                refine HER.out.mono ?_; rintro e w9 ⟨rfl, rfl⟩
                by_cases he2 : e2 = 0
                · have d3 : (e2 != 0) = false := by simp [he2]
                  have HN := Lib.hid (lz_un_lit HCASE.out he2 HF.out HCONS.out (by omega) HK2.out hroom HU8.out hp2 ho hlt hf HPOS.out hkr.1)
                  clear he2
                  go_wp2_with fail
                  exact HN.out
                · have d3 : (e2 != 0) = true := by simp [he2]
                  have HE := Lib.hid (lz_un_lit3 HCASE.out he2 HF.out HCONS.out (by omega) HK2.out hroom hkr.1)
                  clear he2
                  go_wp2_with fail
                  refine HER.out.mono ?_; rintro e w10 ⟨rfl, rfl⟩
                  go_wp2_with fail
                  go_ret2
                  exact lz_un_ret HE.out HU8.out.hb
          · have RM := Lib.hid (lz_room_calls w0 w3 g pm po l0 (p + 1) 0 a1 (k / 2 + 1) vo out HU3.out ha (by omega) false (by simp; omega))
            have HE : Hid (([], 6) = R) := Lib.hid (by rw [← HF.out, HCONS.out, lz_un_cons, if_neg h128, if_pos HK2.out, if_pos (by omega)])
            go_wp2_with fail
            refine RM.out.mono ?_; rintro e w4 ⟨rfl, rfl⟩
            go_wp2_with fail
            go_ret2
            exact lz_un_ret HE.out HU3.out.hb
        · have d2 : (k % 2 == 0) = false := by simp [hk2]
          have HK2 := Lib.hid hk2
          clear hk2
          obtain ⟨far, p2, e2, hif, hp2, hcase⟩ := lz_int_any l0 (p + 1) (by omega) hl HK.out
          have hU3 := HU3.out
          have IN := Lib.hid (wire_Reader_Int.calls g l0 ((p + 1 : Nat) : Int) 0 _ _ _ w0 w3 hU3.rd hU3.hb hif)
          have hw : IntKind.i64.wrap (k / 2 + 3) = k / 2 + 3 := IntWalk.i64_in _ (by omega)
          have HCASE := Lib.hid hcase
          clear hif hcase hU3
          go_wp2_with fail
          refine IN.out.mono ?_; rintro e w4 ⟨rfl, hI4, hB4, hK4⟩
          have HU4 := Lib.hid (HU3.out.read hI4 hB4 hK4)
          have HER := Lib.hid (wire_Err_ro g l0 (p2 : Int) e2 w0 w4 HU4.out.rd)
          clear hI4 hB4 hK4 IN
          by_cases he2 : e2 = 0
          · as_aux_lemma =>
              have d3 : (e2 == 0) = true := by simp [he2]
              subst he2
              obtain ⟨farN, rfl⟩ : ∃ n : Nat, far = n := ⟨far.toNat, by rcases HCASE.out with ⟨h, _⟩ | ⟨_, _, _, h, _⟩; exact absurd rfl h; omega⟩
              obtain ⟨hv1, hv2, hfl, hp2b⟩ := lz_un_far HCASE.out
              have HV1 := Lib.hid hv1
              have HV2 := Lib.hid hv2
              clear hv1 hv2
              have hko : w4.cell? ⟨po, 0, none⟩ = some vo := blk_cell HU4.out.o 0
              obtain ⟨av, cv2, hvo, hcv, hCv⟩ := Kd.R_reads HU4.out.out
              subst hvo
              have HCV := Lib.hid hCv
              clear hCv
              by_cases h4 : (4096 : Int) ≤ farN
              · have d4 : decide ((4096 : Int) ≤ farN) = true := by simp; omega
                have HE := Lib.hid (lz_un_far_bad HV1.out HV2.out hfl (.inl h4) HF.out HCONS.out (by omega) HK2.out)
                go_wp2_with fail
                refine HER.out.mono ?_; rintro e w5 ⟨rfl, rfl⟩
                go_wp2_with fail
                go_ret2
                exact lz_un_ret HE.out HU4.out.hb
              · have d4 : decide ((4096 : Int) ≤ farN) = false := by simp; omega
                by_cases h5 : (out.length : Int) ≤ farN
                · have d5 : decide ((out.length : Int) ≤ farN) = true := by simp; omega
                  have HE := Lib.hid (lz_un_far_bad HV1.out HV2.out hfl (.inr h5) HF.out HCONS.out (by omega) HK2.out)
                  go_wp2_with fail
                  refine HER.out.mono ?_; rintro e w5 ⟨rfl, rfl⟩
                  go_wp2_with fail
                  go_ret2
                  exact lz_un_ret HE.out HU4.out.hb
                · have d5 : decide ((out.length : Int) ≤ farN) = false := by simp; omega
                  by_cases hroom : k / 2 + 3 ≤ max 0 a1 - out.length
                  · as_aux_lemma =>
                      have RM := Lib.hid (lz_room_calls w0 w4 g pm po l0 p2 0 a1 (k / 2 + 3) _ out HU4.out ha (by omega) true (by simp; omega))
                      have HE := Lib.hid (lz_un_far_go HV1.out HV2.out hfl h4 h5 (by omega) HF.out HCONS.out (by omega) HK2.out)
                      obtain ⟨N, hN⟩ : ∃ N : Nat, k / 2 + 3 = N := ⟨(k / 2 + 3).toNat, by omega⟩
                      have HTG : Hid (lz_copy farN (N - 0) out = lz_copy farN N out) := Lib.hid rfl
                      have HE2 : Hid (lz_unF (max 0 a1) f (l0.drop p2) (lz_copy farN N out) = R) := Lib.hid (by have := HE.out; rw [hN] at this; simpa using this)
                      obtain ⟨TG, hTG⟩ : ∃ TG, lz_copy farN N out = TG := ⟨_, rfl⟩
                      rw [hTG] at HTG HE2
                      have HN := Lib.hid hN
                      clear hTG HE hN
                      go_wp2_with fail
                      refine HER.out.mono ?_; rintro e w5 ⟨rfl, rfl⟩
                      go_wp2_with fail
                      refine HER.out.mono ?_; rintro e w5 ⟨rfl, rfl⟩
                      go_wp2_with fail
                      refine RM.out.mono ?_; rintro e w5 ⟨rfl, rfl⟩
                      go_wp2_with fail
                      refine HER.out.mono ?_; rintro e w5 ⟨rfl, rfl⟩
                      go_wp2_with fail
                      go_loopw [57] (fun v57 wq => ∃ (i : Nat) (vo' : Value) (out' : List Int), v57 = .int .i64 i ∧ i ≤ N ∧ out'.length = out.length + i ∧ Hid (lz_Un w0 wq g pm po l0 p2 0 a1 vo' out') ∧ Hid (lz_copy farN (N - i) out' = TG)) (fun v57 _ => N - (intOf v57).toNat)
                      case atStart => exact ⟨0, _, out, rfl, by omega, by omega, HU4, HTG⟩
                      case round =>
                        obtain ⟨i, vo', out', rfl, hi, hol, HU6, HTG⟩ := hrel
                        by_cases hin : i < N
                        · as_aux_lemma =>
                            have d6 : decide ((i : Int) < k / 2 + 3) = true := by have := HN.out; simp; omega
                            have hfl2 : farN < out'.length := by omega
                            have hNb : (N : Int) ≤ 130 := by have := HN.out; omega
                            obtain ⟨ad, cv, hvo'⟩ := lz_R_some HU6.out.out (by omega)
                            subst hvo'
                            have HU4 := HU6
                            have hlim : out'.length ≤ 2000000 := by have := HN.out; omega
                            have hgrow : out'.length = out.length + i := hol
                            obtain ⟨j_, hj_⟩ : ∃ j_, out'.length = j_ + 1 + farN := ⟨out'.length - 1 - farN, by omega⟩
                            obtain ⟨x, hx⟩ : ∃ x, out'.getD j_ 0 = x := ⟨_, rfl⟩
                            have HTG2 := Lib.hid (lz_copy_step hin hj_ hx HTG.out)
                            have HX := Lib.hid hx
                            have HJ : Hid (j_ < out'.length) := Lib.hid (by omega)
                            have HOL := Lib.hid hol
                            have HJ_ := Lib.hid hj_
                            have hjA : (j_ : Int) + 1 + farN ≤ out'.length := by omega
                            have hjB : (out'.length : Int) ≤ (j_ : Int) + 1 + farN := by omega
                            clear hx hol hgrow hj_
                            go_wp2_with fail
                            refine wp_region_inv (fun a0 w_0 b a' w' => ∃ x59 x60 x61 x62 x63 x64 x65 x66 x67 x68 x69 : Value, a' = (((((((((((a0.put (some 59) x59).put (some 60) x60).put (some 61) x61).put (some 62) x62).put (some 63) x63).put (some 64) x64).put (some 65) x65).put (some 66) x66).put (some 67) x67).put (some 68) x68).put (some 69) x69) ∧ (b 10 = false → lz_Un w0 w' g pm po l0 p2 0 a1 (.slice (some ad) out'.length cv) out') ∧ (b 9 = true → b 10 = false → ∃ gN, x68 = .slice (some ⟨gN, 0, none⟩) 1 1 ∧ w'.heap[gN]? = some (.cells #[.int .u8 x] 5 (0, 0))) ∧ (b 10 = true → b 11 = false → lz_UnA w0 w' g pm po l0 p2 0 a1 (.slice (some ad) out'.length cv) x69 (out' ++ [x])) ∧ (b 11 = true → lz_Un w0 w' g pm po l0 p2 0 a1 x69 (out' ++ [x])) ∧ (b 10 = true → b 9 = true) ∧ (b 9 = true → b 8 = true) ∧ (b 11 = true → ∀ j, j < 11 → b j = true) ∧ (b 0 = true → x59 = .slice (some ad) out'.length cv) ∧ (b 1 = true → x60 = .slice (some ad) out'.length cv) ∧ (b 2 = true → x61 = .slice (some ad) out'.length cv) ∧ (b 3 = true → x62 = .int .i64 (out'.length : Int)) ∧ (b 4 = true → x63 = .int .i64 ((out'.length : Int) - 1)) ∧ (b 5 = true → x64 = .int .i64 (farN : Int)) ∧ (b 6 = true → x65 = .int .i64 (j_ : Int)) ∧ (b 7 = true → x66 = .pointer (some (ad.add j_))) ∧ (b 8 = true → x67 = .int .u8 x)) (by kernel_rfl) (by kernel_rfl) ?start ⟨?op0, ?op1, ?op2, ?op3, ?op4, ?op5, ?op6, ?op7, ?op8, ?op9, ?op10, ?op11, trivial⟩ ?done
                            case start => exact ⟨_, _, _, _, _, _, _, _, _, _, _, by simp only [Act.put, List.setIfInBounds_toArray, List.set_cons_zero, List.set_cons_succ]; rfl, fun _ => HU4.out.next (below_drew1 (Below.refl _ _)), fun h => absurd h (by decide), fun h => absurd h (by decide), fun h => absurd h (by decide), fun h => absurd h (by decide), fun h => absurd h (by decide), fun h => absurd h (by decide), fun h => absurd h (by decide), fun h => absurd h (by decide), fun h => absurd h (by decide), fun h => absurd h (by decide), fun h => absurd h (by decide), fun h => absurd h (by decide), fun h => absurd h (by decide), fun h => absurd h (by decide), fun h => absurd h (by decide)⟩
                            case op0 =>
                              rintro bb _ w' ⟨x59, x60, x61, x62, x63, x64, x65, x66, x67, x68, x69, rfl, U0, S1, U2, U3, Q10, Q9, Q11, p59, p60, p61, p62, p63, p64, p65, p66, p67⟩ hb hd K hK
                              simp only [Act.put, List.setIfInBounds_toArray, List.set_cons_zero, List.set_cons_succ]
                              rw [if_pos (by rfl)]
                              have h11 : bb 11 = false := by cases h : bb 11 with | false => rfl | true => exact absurd (Q11 h 0 (by decide)) (by rw [hb]; decide)
                              have hpo : w'.cell? ⟨po, 0, none⟩ = some (.slice (some ad) out'.length cv) := lz_un_po2 U0 U2 h11
                              go_simp
                              exact hK _ _ ⟨.slice (some ad) out'.length cv, x60, x61, x62, x63, x64, x65, x66, x67, x68, x69, by simp only [Act.put, List.setIfInBounds_toArray, List.set_cons_zero, List.set_cons_succ], fun h => U0 (by simpa [upb] using h), fun h h2 => S1 (by simpa [upb] using h) (by simpa [upb] using h2), fun h h2 => U2 (by simpa [upb] using h) (by simpa [upb] using h2), fun h => absurd h (by simp [upb, h11]), fun h => lz_upb (Q10 (by simpa [upb] using h)), fun h => lz_upb (Q9 (by simpa [upb] using h)), fun h => absurd h (by simp [upb, h11]), fun _ => rfl, fun h => p60 (by simpa [upb] using h), fun h => p61 (by simpa [upb] using h), fun h => p62 (by simpa [upb] using h), fun h => p63 (by simpa [upb] using h), fun h => p64 (by simpa [upb] using h), fun h => p65 (by simpa [upb] using h), fun h => p66 (by simpa [upb] using h), fun h => p67 (by simpa [upb] using h)⟩
                            case op1 =>
                              rintro bb _ w' ⟨x59, x60, x61, x62, x63, x64, x65, x66, x67, x68, x69, rfl, U0, S1, U2, U3, Q10, Q9, Q11, p59, p60, p61, p62, p63, p64, p65, p66, p67⟩ hb hd K hK
                              simp only [Act.put, List.setIfInBounds_toArray, List.set_cons_zero, List.set_cons_succ]
                              rw [if_pos (by rfl)]
                              have h11 : bb 11 = false := by cases h : bb 11 with | false => rfl | true => exact absurd (Q11 h 1 (by decide)) (by rw [hb]; decide)
                              have hpo : w'.cell? ⟨po, 0, none⟩ = some (.slice (some ad) out'.length cv) := lz_un_po2 U0 U2 h11
                              go_simp
                              exact hK _ _ ⟨x59, .slice (some ad) out'.length cv, x61, x62, x63, x64, x65, x66, x67, x68, x69, by simp only [Act.put, List.setIfInBounds_toArray, List.set_cons_zero, List.set_cons_succ], fun h => U0 (by simpa [upb] using h), fun h h2 => S1 (by simpa [upb] using h) (by simpa [upb] using h2), fun h h2 => U2 (by simpa [upb] using h) (by simpa [upb] using h2), fun h => absurd h (by simp [upb, h11]), fun h => lz_upb (Q10 (by simpa [upb] using h)), fun h => lz_upb (Q9 (by simpa [upb] using h)), fun h => absurd h (by simp [upb, h11]), fun h => p59 (by simpa [upb] using h), fun _ => rfl, fun h => p61 (by simpa [upb] using h), fun h => p62 (by simpa [upb] using h), fun h => p63 (by simpa [upb] using h), fun h => p64 (by simpa [upb] using h), fun h => p65 (by simpa [upb] using h), fun h => p66 (by simpa [upb] using h), fun h => p67 (by simpa [upb] using h)⟩
                            case op2 =>
                              rintro bb _ w' ⟨x59, x60, x61, x62, x63, x64, x65, x66, x67, x68, x69, rfl, U0, S1, U2, U3, Q10, Q9, Q11, p59, p60, p61, p62, p63, p64, p65, p66, p67⟩ hb hd K hK
                              simp only [Act.put, List.setIfInBounds_toArray, List.set_cons_zero, List.set_cons_succ]
                              rw [if_pos (by rfl)]
                              have h11 : bb 11 = false := by cases h : bb 11 with | false => rfl | true => exact absurd (Q11 h 2 (by decide)) (by rw [hb]; decide)
                              have hpo : w'.cell? ⟨po, 0, none⟩ = some (.slice (some ad) out'.length cv) := lz_un_po2 U0 U2 h11
                              go_simp
                              exact hK _ _ ⟨x59, x60, .slice (some ad) out'.length cv, x62, x63, x64, x65, x66, x67, x68, x69, by simp only [Act.put, List.setIfInBounds_toArray, List.set_cons_zero, List.set_cons_succ], fun h => U0 (by simpa [upb] using h), fun h h2 => S1 (by simpa [upb] using h) (by simpa [upb] using h2), fun h h2 => U2 (by simpa [upb] using h) (by simpa [upb] using h2), fun h => absurd h (by simp [upb, h11]), fun h => lz_upb (Q10 (by simpa [upb] using h)), fun h => lz_upb (Q9 (by simpa [upb] using h)), fun h => absurd h (by simp [upb, h11]), fun h => p59 (by simpa [upb] using h), fun h => p60 (by simpa [upb] using h), fun _ => rfl, fun h => p62 (by simpa [upb] using h), fun h => p63 (by simpa [upb] using h), fun h => p64 (by simpa [upb] using h), fun h => p65 (by simpa [upb] using h), fun h => p66 (by simpa [upb] using h), fun h => p67 (by simpa [upb] using h)⟩
                            case op3 =>
                              rintro bb _ w' ⟨x59, x60, x61, x62, x63, x64, x65, x66, x67, x68, x69, rfl, U0, S1, U2, U3, Q10, Q9, Q11, p59, p60, p61, p62, p63, p64, p65, p66, p67⟩ hb hd K hK
                              simp only [Act.put, List.setIfInBounds_toArray, List.set_cons_zero, List.set_cons_succ]
                              obtain rfl := (p61 (hd 2 (by decide))).symm
                              rw [if_pos (by rfl)]
                              have h11 : bb 11 = false := by cases h : bb 11 with | false => rfl | true => exact absurd (Q11 h 3 (by decide)) (by rw [hb]; decide)
                              go_simp
                              exact hK _ _ ⟨x59, x60, .slice (some ad) out'.length cv, .int .i64 (out'.length : Int), x63, x64, x65, x66, x67, x68, x69, by simp only [Act.put, List.setIfInBounds_toArray, List.set_cons_zero, List.set_cons_succ], fun h => U0 (by simpa [upb] using h), fun h h2 => S1 (by simpa [upb] using h) (by simpa [upb] using h2), fun h h2 => U2 (by simpa [upb] using h) (by simpa [upb] using h2), fun h => absurd h (by simp [upb, h11]), fun h => lz_upb (Q10 (by simpa [upb] using h)), fun h => lz_upb (Q9 (by simpa [upb] using h)), fun h => absurd h (by simp [upb, h11]), fun h => p59 (by simpa [upb] using h), fun h => p60 (by simpa [upb] using h), fun _ => rfl, fun _ => rfl, fun h => p63 (by simpa [upb] using h), fun h => p64 (by simpa [upb] using h), fun h => p65 (by simpa [upb] using h), fun h => p66 (by simpa [upb] using h), fun h => p67 (by simpa [upb] using h)⟩
                            case op4 =>
                              rintro bb _ w' ⟨x59, x60, x61, x62, x63, x64, x65, x66, x67, x68, x69, rfl, U0, S1, U2, U3, Q10, Q9, Q11, p59, p60, p61, p62, p63, p64, p65, p66, p67⟩ hb hd K hK
                              simp only [Act.put, List.setIfInBounds_toArray, List.set_cons_zero, List.set_cons_succ]
                              obtain rfl := (p62 (hd 3 (by decide))).symm
                              rw [if_pos (by rfl)]
                              have h11 : bb 11 = false := by cases h : bb 11 with | false => rfl | true => exact absurd (Q11 h 4 (by decide)) (by rw [hb]; decide)
                              have hw : IntKind.i64.wrap ((out'.length : Int) - 1) = (out'.length : Int) - 1 := IntWalk.i64_in _ (by omega)
                              go_simp
                              exact hK _ _ ⟨x59, x60, x61, .int .i64 (out'.length : Int), .int .i64 ((out'.length : Int) - 1), x64, x65, x66, x67, x68, x69, by simp only [Act.put, List.setIfInBounds_toArray, List.set_cons_zero, List.set_cons_succ], fun h => U0 (by simpa [upb] using h), fun h h2 => S1 (by simpa [upb] using h) (by simpa [upb] using h2), fun h h2 => U2 (by simpa [upb] using h) (by simpa [upb] using h2), fun h => absurd h (by simp [upb, h11]), fun h => lz_upb (Q10 (by simpa [upb] using h)), fun h => lz_upb (Q9 (by simpa [upb] using h)), fun h => absurd h (by simp [upb, h11]), fun h => p59 (by simpa [upb] using h), fun h => p60 (by simpa [upb] using h), fun h => p61 (by simpa [upb] using h), fun _ => rfl, fun _ => rfl, fun h => p64 (by simpa [upb] using h), fun h => p65 (by simpa [upb] using h), fun h => p66 (by simpa [upb] using h), fun h => p67 (by simpa [upb] using h)⟩
                            case op5 =>
                              rintro bb _ w' ⟨x59, x60, x61, x62, x63, x64, x65, x66, x67, x68, x69, rfl, U0, S1, U2, U3, Q10, Q9, Q11, p59, p60, p61, p62, p63, p64, p65, p66, p67⟩ hb hd K hK
                              simp only [Act.put, List.setIfInBounds_toArray, List.set_cons_zero, List.set_cons_succ]
                              rw [if_pos (by rfl)]
                              have h11 : bb 11 = false := by cases h : bb 11 with | false => rfl | true => exact absurd (Q11 h 5 (by decide)) (by rw [hb]; decide)
                              go_simp
                              exact hK _ _ ⟨x59, x60, x61, x62, x63, .int .i64 (farN : Int), x65, x66, x67, x68, x69, by simp only [Act.put, List.setIfInBounds_toArray, List.set_cons_zero, List.set_cons_succ], fun h => U0 (by simpa [upb] using h), fun h h2 => S1 (by simpa [upb] using h) (by simpa [upb] using h2), fun h h2 => U2 (by simpa [upb] using h) (by simpa [upb] using h2), fun h => absurd h (by simp [upb, h11]), fun h => lz_upb (Q10 (by simpa [upb] using h)), fun h => lz_upb (Q9 (by simpa [upb] using h)), fun h => absurd h (by simp [upb, h11]), fun h => p59 (by simpa [upb] using h), fun h => p60 (by simpa [upb] using h), fun h => p61 (by simpa [upb] using h), fun h => p62 (by simpa [upb] using h), fun h => p63 (by simpa [upb] using h), fun _ => rfl, fun h => p65 (by simpa [upb] using h), fun h => p66 (by simpa [upb] using h), fun h => p67 (by simpa [upb] using h)⟩
                            case op6 =>
                              rintro bb _ w' ⟨x59, x60, x61, x62, x63, x64, x65, x66, x67, x68, x69, rfl, U0, S1, U2, U3, Q10, Q9, Q11, p59, p60, p61, p62, p63, p64, p65, p66, p67⟩ hb hd K hK
                              simp only [Act.put, List.setIfInBounds_toArray, List.set_cons_zero, List.set_cons_succ]
                              obtain rfl := (p63 (hd 4 (by decide))).symm
                              obtain rfl := (p64 (hd 5 (by decide))).symm
                              rw [if_pos (by rfl)]
                              have h11 : bb 11 = false := by cases h : bb 11 with | false => rfl | true => exact absurd (Q11 h 6 (by decide)) (by rw [hb]; decide)
                              have hw : IntKind.i64.wrap ((out'.length : Int) - 1 - farN) = (j_ : Int) := by rw [IntWalk.i64_in _ (by omega)]; omega
                              go_simp
                              exact hK _ _ ⟨x59, x60, x61, x62, .int .i64 ((out'.length : Int) - 1), .int .i64 (farN : Int), .int .i64 (j_ : Int), x66, x67, x68, x69, by simp only [Act.put, List.setIfInBounds_toArray, List.set_cons_zero, List.set_cons_succ], fun h => U0 (by simpa [upb] using h), fun h h2 => S1 (by simpa [upb] using h) (by simpa [upb] using h2), fun h h2 => U2 (by simpa [upb] using h) (by simpa [upb] using h2), fun h => absurd h (by simp [upb, h11]), fun h => lz_upb (Q10 (by simpa [upb] using h)), fun h => lz_upb (Q9 (by simpa [upb] using h)), fun h => absurd h (by simp [upb, h11]), fun h => p59 (by simpa [upb] using h), fun h => p60 (by simpa [upb] using h), fun h => p61 (by simpa [upb] using h), fun h => p62 (by simpa [upb] using h), fun _ => rfl, fun _ => rfl, fun _ => rfl, fun h => p66 (by simpa [upb] using h), fun h => p67 (by simpa [upb] using h)⟩
                            case op7 =>
                              rintro bb _ w' ⟨x59, x60, x61, x62, x63, x64, x65, x66, x67, x68, x69, rfl, U0, S1, U2, U3, Q10, Q9, Q11, p59, p60, p61, p62, p63, p64, p65, p66, p67⟩ hb hd K hK
                              simp only [Act.put, List.setIfInBounds_toArray, List.set_cons_zero, List.set_cons_succ]
                              obtain rfl := (p60 (hd 1 (by decide))).symm
                              obtain rfl := (p65 (hd 6 (by decide))).symm
                              rw [if_pos (by rfl)]
                              have h11 : bb 11 = false := by cases h : bb 11 with | false => rfl | true => exact absurd (Q11 h 7 (by decide)) (by rw [hb]; decide)
                              have hj0 : (j_ : Int) < out'.length := by omega
                              go_simp
                              exact hK _ _ ⟨x59, .slice (some ad) out'.length cv, x61, x62, x63, x64, .int .i64 (j_ : Int), .pointer (some (ad.add j_)), x67, x68, x69, by simp only [Act.put, List.setIfInBounds_toArray, List.set_cons_zero, List.set_cons_succ], fun h => U0 (by simpa [upb] using h), fun h h2 => S1 (by simpa [upb] using h) (by simpa [upb] using h2), fun h h2 => U2 (by simpa [upb] using h) (by simpa [upb] using h2), fun h => absurd h (by simp [upb, h11]), fun h => lz_upb (Q10 (by simpa [upb] using h)), fun h => lz_upb (Q9 (by simpa [upb] using h)), fun h => absurd h (by simp [upb, h11]), fun h => p59 (by simpa [upb] using h), fun _ => rfl, fun h => p61 (by simpa [upb] using h), fun h => p62 (by simpa [upb] using h), fun h => p63 (by simpa [upb] using h), fun h => p64 (by simpa [upb] using h), fun _ => rfl, fun _ => rfl, fun h => p67 (by simpa [upb] using h)⟩
                            case op8 =>
                              rintro bb _ w' ⟨x59, x60, x61, x62, x63, x64, x65, x66, x67, x68, x69, rfl, U0, S1, U2, U3, Q10, Q9, Q11, p59, p60, p61, p62, p63, p64, p65, p66, p67⟩ hb hd K hK
                              simp only [Act.put, List.setIfInBounds_toArray, List.set_cons_zero, List.set_cons_succ]
                              obtain rfl := (p66 (hd 7 (by decide))).symm
                              rw [if_pos (by rfl)]
                              have h11 : bb 11 = false := by cases h : bb 11 with | false => rfl | true => exact absurd (Q11 h 8 (by decide)) (by rw [hb]; decide)
                              have h10 : bb 10 = false := by cases h : bb 10 with | false => rfl | true => exact absurd (Q9 (Q10 h)) (by rw [hb]; decide)
                              have hx := lz_un_cell (U0 h10) HJ.out HX.out
                              go_simp
                              exact hK _ _ ⟨x59, x60, x61, x62, x63, x64, x65, .pointer (some (ad.add j_)), .int .u8 x, x68, x69, by simp only [Act.put, List.setIfInBounds_toArray, List.set_cons_zero, List.set_cons_succ], fun h => U0 (by simpa [upb] using h), fun h h2 => S1 (by simpa [upb] using h) (by simpa [upb] using h2), fun h h2 => U2 (by simpa [upb] using h) (by simpa [upb] using h2), fun h => absurd h (by simp [upb, h11]), fun h => lz_upb (Q10 (by simpa [upb] using h)), fun h => lz_upb (Q9 (by simpa [upb] using h)), fun h => absurd h (by simp [upb, h11]), fun h => p59 (by simpa [upb] using h), fun h => p60 (by simpa [upb] using h), fun h => p61 (by simpa [upb] using h), fun h => p62 (by simpa [upb] using h), fun h => p63 (by simpa [upb] using h), fun h => p64 (by simpa [upb] using h), fun h => p65 (by simpa [upb] using h), fun _ => rfl, fun _ => rfl⟩
                            case op9 =>
                              rintro bb _ w' ⟨x59, x60, x61, x62, x63, x64, x65, x66, x67, x68, x69, rfl, U0, S1, U2, U3, Q10, Q9, Q11, p59, p60, p61, p62, p63, p64, p65, p66, p67⟩ hb hd K hK
                              simp only [Act.put, List.setIfInBounds_toArray, List.set_cons_zero, List.set_cons_succ]
                              obtain rfl := (p67 (hd 8 (by decide))).symm
                              rw [if_pos (by rfl)]
                              have h11 : bb 11 = false := by cases h : bb 11 with | false => rfl | true => exact absurd (Q11 h 9 (by decide)) (by rw [hb]; decide)
                              go_simp
                              exact hK _ _ ⟨x59, x60, x61, x62, x63, x64, x65, x66, .int .u8 x, .slice (some ⟨w'.heap.size, 0, none⟩) 1 1, x69, by simp only [Act.put, List.setIfInBounds_toArray, List.set_cons_zero, List.set_cons_succ], fun h => (U0 (by simpa [upb] using h)).next (below_alloc (Below.refl _ _) _), fun _ _ => ⟨_, rfl, heap_alloc_new _ _⟩, fun h h2 => absurd (Q10 (by simpa [upb] using h)) (by rw [hb]; decide), fun h => absurd h (by simp [upb, h11]), fun _ => by simp [upb], fun _ => lz_upb (hd 8 (by decide)), fun h => absurd h (by simp [upb, h11]), fun h => p59 (by simpa [upb] using h), fun h => p60 (by simpa [upb] using h), fun h => p61 (by simpa [upb] using h), fun h => p62 (by simpa [upb] using h), fun h => p63 (by simpa [upb] using h), fun h => p64 (by simpa [upb] using h), fun h => p65 (by simpa [upb] using h), fun h => p66 (by simpa [upb] using h), fun _ => rfl⟩
                            case op10 =>
                              rintro bb _ w' ⟨x59, x60, x61, x62, x63, x64, x65, x66, x67, x68, x69, rfl, U0, S1, U2, U3, Q10, Q9, Q11, p59, p60, p61, p62, p63, p64, p65, p66, p67⟩ hb hd K hK
                              simp only [Act.put, List.setIfInBounds_toArray, List.set_cons_zero, List.set_cons_succ]
                              obtain rfl := (p59 (hd 0 (by decide))).symm
                              rw [if_pos (by rfl)]
                              have h11 : bb 11 = false := by cases h : bb 11 with | false => rfl | true => exact absurd (Q11 h 10 (by decide)) (by rw [hb]; decide)
                              obtain ⟨gN, e13, hNN⟩ := S1 (hd 9 (by decide)) hb
                              subst e13
                              obtain ⟨i0, hi, hz0, hz1, hz2⟩ := info_parts info5
                              have hU5 := U0 hb
                              have hown := Kd.own_of_R hU5.out
                              refine wp_append_lies _ (.tmp 59) (.tmp 68) 22 rfl w0.heap.size 5 i0 (.int .u8 0) 1 1 Tryd.underlying22 hi hz0 hz1 hz2 rfl (by decide) (.slice (some ad) out'.length cv) out'.length _ (by rfl) hown ⟨gN, 0, none⟩ 1 1 [.int .u8 x] (by rfl) rfl (fun j u hj => by rw [add_plain]; exact lz_one_cell hNN hj) (by simp [Value.oneCell']) (by decide) (by unfold maxLen; omega) (by omega) hU5.hb.size w'.heap.size rfl ?_
                              intro g1 cap w2 hown2 hgr hat hlt2
                              have hR2 : Kd.R (Kd.int .u8) 5 w2 w0.heap.size (fun _ => True) (.slice (some ⟨g1, 0, none⟩) (out'.length + 1) cap) (out' ++ [x]) := wire_R_of_own (by simp [encs]) hown2
                              have hU6 := hU5.app hR2 (pw_below_grown hU5.hb _ hU5.hb.size hgr (Kd.R_base hU5.out)) hgr
                              exact hK _ _ ⟨.slice (some ad) out'.length cv, x60, x61, x62, x63, x64, x65, x66, x67, .slice (some ⟨gN, 0, none⟩) 1 1, .slice (some ⟨g1, 0, none⟩) (out'.length + 1) cap, by simp only [Act.put, List.setIfInBounds_toArray, List.set_cons_zero, List.set_cons_succ], fun h => absurd h (by simp [upb]), fun _ h => absurd h (by simp [upb]), fun _ _ => hU6, fun h => absurd h (by simp [upb, h11]), fun _ => lz_upb (hd 9 (by decide)), fun h => lz_upb (Q9 (by simpa [upb] using h)), fun h => absurd h (by simp [upb, h11]), fun _ => rfl, fun h => p60 (by simpa [upb] using h), fun h => p61 (by simpa [upb] using h), fun h => p62 (by simpa [upb] using h), fun h => p63 (by simpa [upb] using h), fun h => p64 (by simpa [upb] using h), fun h => p65 (by simpa [upb] using h), fun h => p66 (by simpa [upb] using h), fun h => p67 (by simpa [upb] using h)⟩
                            case op11 =>
                              rintro bb _ w' ⟨x59, x60, x61, x62, x63, x64, x65, x66, x67, x68, x69, rfl, U0, S1, U2, U3, Q10, Q9, Q11, p59, p60, p61, p62, p63, p64, p65, p66, p67⟩ hb hd K hK
                              simp only [Act.put, List.setIfInBounds_toArray, List.set_cons_zero, List.set_cons_succ]
                              rw [if_pos (by rfl)]
                              have hU6 := U2 (hd 10 (by decide)) hb
                              have hU7 := hU6.store
                              have hc3 : w'.cell? ⟨po, 0, none⟩ = some (.slice (some ad) out'.length cv) := blk_cell hU6.o 0
                              have hf3 : w'.frozen? ⟨po, 0, none⟩ = false := blk_frozen hU6.o 0
                              obtain ⟨a6, c6, e6, -, -⟩ := Kd.R_reads hU6.out
                              obtain ⟨n6, hn6⟩ : ∃ n6, (out' ++ [x]).length = n6 := ⟨_, rfl⟩
                              rw [hn6] at e6
                              subst e6
                              go_simp
                              exact hK _ _ ⟨x59, x60, x61, x62, x63, x64, x65, x66, x67, x68, .slice a6 n6 c6, by simp only [Act.put, List.setIfInBounds_toArray, List.set_cons_zero, List.set_cons_succ], fun h => absurd (hd 10 (by decide)) (by simpa [upb] using h), fun _ h => absurd (hd 10 (by decide)) (by simpa [upb] using h), fun _ h => absurd h (by simp [upb]), fun _ => hU7, fun h => lz_upb (Q10 (by simpa [upb] using h)), fun h => lz_upb (Q9 (by simpa [upb] using h)), fun _ j hj => lz_upb (hd j (lz_memn 11 _ (by decide) j hj)), fun h => p59 (by simpa [upb] using h), fun h => p60 (by simpa [upb] using h), fun h => p61 (by simpa [upb] using h), fun h => p62 (by simpa [upb] using h), fun h => p63 (by simpa [upb] using h), fun h => p64 (by simpa [upb] using h), fun h => p65 (by simpa [upb] using h), fun h => p66 (by simpa [upb] using h), fun h => p67 (by simpa [upb] using h)⟩
                            case done =>
                              rintro bb _ w' hb ⟨x59, x60, x61, x62, x63, x64, x65, x66, x67, x68, x69, rfl, U0, S1, U2, U3, Q10, Q9, Q11, p59, p60, p61, p62, p63, p64, p65, p66, p67⟩
                              obtain rfl := (p59 (hb 0 (by decide))).symm
                              obtain rfl := (p60 (hb 1 (by decide))).symm
                              obtain rfl := (p61 (hb 2 (by decide))).symm
                              obtain rfl := (p62 (hb 3 (by decide))).symm
                              obtain rfl := (p63 (hb 4 (by decide))).symm
                              obtain rfl := (p64 (hb 5 (by decide))).symm
                              obtain rfl := (p65 (hb 6 (by decide))).symm
                              obtain rfl := (p66 (hb 7 (by decide))).symm
                              obtain rfl := (p67 (hb 8 (by decide))).symm
                              simp only [Act.put, List.setIfInBounds_toArray, List.set_cons_zero, List.set_cons_succ]
                              have HU5 := Lib.hid (U3 (hb 11 (by decide)))
                              clear U0 S1 U2 U3 Q9 Q10 Q11 hb
                              go_wp2_with fail
                              exact ⟨⟨i + 1, _, _, by go_num, by omega, by simp only [List.length_append, List.length_singleton]; have := HOL.out; omega, HU5, HTG2⟩, by simp [intOf] <;> omega⟩
                        · obtain rfl : i = N := by omega
                          have d6 : decide ((i : Int) < k / 2 + 3) = false := by have := HN.out; simp; omega
                          have hE6 := wire_Err_ro g l0 (p2 : Int) 0 w0 _ HU6.out.rd
                          have HER6 := Lib.hid hE6
                          have HNX := Lib.hid (lz_un_next HU6.out HTG.out HE2.out hol (by have := HN.out; omega) (lz_un_far2 HV2.out) hp2 hlt hf HPOS.out)
                          clear hE6
                          go_wp2_with fail
                          refine HER6.out.mono ?_; rintro e w7 ⟨rfl, rfl⟩
                          go_wp2_with fail
                          exact HNX.out
                  · have RM := Lib.hid (lz_room_calls w0 w4 g pm po l0 p2 0 a1 (k / 2 + 3) _ out HU4.out ha (by omega) false (by simp; omega))
                    have HE := Lib.hid (lz_un_far_full HV1.out HV2.out hfl h4 h5 (by omega) HF.out HCONS.out (by omega) HK2.out)
                    go_wp2_with fail
                    refine HER.out.mono ?_; rintro e w5 ⟨rfl, rfl⟩
                    go_wp2_with fail
                    refine HER.out.mono ?_; rintro e w5 ⟨rfl, rfl⟩
                    go_wp2_with fail
                    refine RM.out.mono ?_; rintro e w5 ⟨rfl, rfl⟩
                    go_wp2_with fail
                    go_ret2
                    exact lz_un_ret HE.out HU4.out.hb
          · have d3 : (e2 == 0) = false := by simp [he2]
            have d4 : (e2 != 0) = true := by simp [he2]
            have HE := Lib.hid (lz_un_err HCASE.out he2 HF.out HCONS.out (by omega) HK2.out)
            clear he2
            go_wp2_with fail
            refine HER.out.mono ?_; rintro e w5 ⟨rfl, rfl⟩
            go_wp2_with fail
            refine HER.out.mono ?_; rintro e w5 ⟨rfl, rfl⟩
            go_wp2_with fail
            refine HER.out.mono ?_; rintro e w5 ⟨rfl, rfl⟩
            go_wp2_with fail
            refine HER.out.mono ?_; rintro e w5 ⟨rfl, rfl⟩
            go_wp2_with fail
            refine HER.out.mono ?_; rintro e w5 ⟨rfl, rfl⟩
            go_wp2_with fail
            go_ret2
            exact lz_un_ret HE.out HU4.out.hb
    · have d0 : decide ((0 : Int) < (l0.length : Int) - p) = false := by simp; omega
      have HE : Hid ((out, 0) = R) := Lib.hid (by rw [← HF.out, List.drop_of_length_le (by omega), lz_un_nil])
      have ko : wr.cell? ⟨po, 0, none⟩ = some vo := blk_cell HU.out.o 0
      go_wp2_with fail
      refine LF.out.mono ?_; rintro e w2 ⟨rfl, n2, rfl⟩
      go_wp2_with fail
      go_ret2
      have hU2 := HU.out.next (pw_below_drewN (Below.refl wr.heap.size wr) n2)
      refine ⟨vo, by rw [← HE.out]; rfl, by rw [← HE.out]; exact hU2.out, hU2.hb⟩
end Go.Proofs.YtigcgdhihaibbaaDoor.PLz
