/- Path: the law PathShort: what its own search holds. No condition. -/
import Derived.Test.YtkbimhngbdbgdaaWakes
import Derived.Test.YtkbimhngbdbgdaaQZ
namespace Go.Proofs.Ytkbimhngbdbgdaa.PPathFinds
open Go.RowKit Go.Proofs.Ytkbimhngbdbgdaa.Pure Go.Proofs.YtkbimhngbdbgdaaW.PrintWords Go.Proofs.YtkbimhngbdbgdaaW.PrintLast Go.Proofs.YtkbimhngbdbgdaaW.PrintMore
attribute [local go_sem] max2_int min2_int max_two min_two max_three min_three max_four min_four   -- for this text's walks alone
set_option linter.unusedVariables false
set_option linter.unusedSimpArgs false
set_option maxHeartbeats 2000000
set_option maxRecDepth 20000
def sv (S : Stp) : Int → Option Value := fun k => (S k).map (.int .i64)
theorem sv_up (S : Stp) (x v : Int) : mUp (sv S) x (.int .i64 v) = sv (iUp S x v) := by
  funext k
  unfold mUp sv iUp
  split <;> rfl
theorem sv_get (S : Stp) (x : Int) : (sv S x).getD (.int .i64 0) = .int .i64 ((S x).getD 0) := by
  unfold sv
  cases S x <;> rfl
theorem sv_some (S : Stp) (x : Int) : (sv S x).isSome = (S x).isSome := by
  unfold sv
  cases S x <;> rfl
section
variable {W W' : World} {base g : Nat} {ok : Nat → Prop} {v : Value} {xs : List Int} {f : Int → Option Value}
theorem Q_but (h : Kd.Q (Kd.int .i64) 3 W base ok v xs) (hm : MapIs W g f) (hb : But W W' g) : Kd.Q (Kd.int .i64) 3 W' base ok v xs :=
  Kd.Q_mono (Kd.Q_step (Kd.Q_bound h) (fun k hk hlt => by
    obtain ⟨_, _, _, q, hq, cells, hc⟩ := hk
    exact hb.block k (hm.ne_cells hc))) (fun _ hk => hk.1)
theorem Q_map_ne (h : Kd.Q (Kd.int .i64) 3 W base ok v xs) (hm : MapIs W g f) : some g ≠ v.ownBlock := fun he => by
  obtain ⟨cells, hc⟩ := Kd.Q_typed h g he.symm
  exact hm.ne_cells hc rfl
end
structure Wk (w W : World) (kb k19 gm gs : Nat) (a b : Int) (s : ByteArray) (fB : Int → Option Value) (S : Stp) (v5 : Value) (r1 : List Int) (v : Value) (work : List Int) : Prop where
  bel : Below w.heap.size w W
  blk : W.heap[kb]? = some (.cells #[.int .i64 a, .int .i64 b, .string s] 25 (0, 0))
  var : W.heap[k19]? = some (.cells #[.map (some gm)] 32 (0, 0))
  busy : MapIs W gm fB
  stp : MapIs W gs (sv S)
  low : w.heap.size ≤ gs
  ne : gm ≠ gs
  res : Kd.Q (Kd.int .i64) 3 W w.heap.size (fun k => True ∧ some k ≠ v.ownBlock) v5 r1
  own : Kd.Q (Kd.int .i64) 3 W w.heap.size (fun _ => True) v work
section
variable {w W W' : World} {kb k19 gm gs : Nat} {a b : Int} {s : ByteArray} {fB : Int → Option Value} {S : Stp} {v5 v v1 vn : Value} {r1 work nx : List Int}
theorem Wk.next (h : Wk w W kb k19 gm gs a b s fB S v5 r1 v work) (hb : Below W.heap.size W W') : Wk w W' kb k19 gm gs a b s fB S v5 r1 v work :=
  ⟨below_then h.bel h.bel.size hb, (hb.block _ (blk_lt h.blk)).trans h.blk, (hb.block _ (blk_lt h.var)).trans h.var, h.busy.keep (hb.block _ h.busy.lt), h.stp.keep (hb.block _ h.stp.lt), h.low, h.ne, Kd.Q_below h.res hb, Kd.Q_below h.own hb⟩
theorem Wk.put (h : Wk w W kb k19 gm gs a b s fB S v5 r1 v work) (x y : Int) :
    ∃ W', (Instr.mapUpdate 38 (.map (some gs)) (.int .i64 x) (.int .i64 y)).run Try.prog W = .ok () W' ∧ Wk w W' kb k19 gm gs a b s fB (iUp S x y) v5 r1 v work ∧ But W W' gs := by
  obtain ⟨W', h1, h2, h3⟩ := map_put (W := W) Try.underlying38 h.stp x (.int .i64 y)
  rw [sv_up] at h2
  refine ⟨W', h1, ⟨⟨h3.os.trans h.bel.os, h3.tape.trans h.bel.tape, h3.output.trans h.bel.output, by rw [h3.size]; exact h.bel.size, fun k hk => (h3.block k (by have := h.low; omega)).trans (h.bel.block k hk)⟩, (h3.block kb (h.stp.ne_cells h.blk)).trans h.blk, (h3.block k19 (h.stp.ne_cells h.var)).trans h.var, h.busy.keep (h3.block gm h.ne), h2, h.low, h.ne, Q_but h.res h.stp h3, Q_but h.own h.stp h3⟩, h3⟩
theorem Wk.app (h : Wk w W kb k19 gm gs a b s fB S v5 r1 v work) {x : Int} (hq : Kd.Q (Kd.int .i64) 3 W' w.heap.size (fun _ => True) v1 (work ++ [x])) (hB : Below w.heap.size w W') (hg : W.grownBy W' v.ownBlock) (hat : v1.ownBlock = v.ownBlock ∨ ∃ b, v1.ownBlock = some b ∧ W.heap.size ≤ b) :
    Wk w W' kb k19 gm gs a b s fB S v5 r1 v1 (work ++ [x]) :=
  ⟨hB, (hg.block kb (blk_lt h.blk) (Kd.Q_ne h.own h.blk (by decide))).trans h.blk, (hg.block k19 (blk_lt h.var) (Kd.Q_ne h.own h.var (by decide))).trans h.var, h.busy.keep (hg.block gm h.busy.lt (Q_map_ne h.own h.busy)), h.stp.keep (hg.block gs h.stp.lt (Q_map_ne h.own h.stp)), h.low, h.ne, Kd.Q_after h.res hg hat, hq⟩
theorem Wk.cut {ad : Addr} {n c : Nat} {t : Int} {r : List Int} (h : Wk w W kb k19 gm gs a b s fB S v5 r1 (.slice (some ad) n c) work) (hw : work = t :: r) :
    ∃ A' c', (∀ W0 : World, (Instr.slice 22 (.slice (some ad) n c) (some (.int .i64 1)) none none).run Try.prog W0 = .ok (.slice A' r.length c') W0) ∧ Wk w W kb k19 gm gs a b s fB S v5 r1 (.slice A' r.length c') r := by
  subst hw
  have hn : n = (t :: r).length := (Kd.Q_reads' h.own).1
  subst hn
  obtain ⟨i0, hi0, _, hsz, _⟩ := info_parts info3
  have hcut := cut_from (P := Try.prog) 22 3 .i64 Try.underlying22 hi0 1 hsz (some ad) (t :: r).length c 1 (by omega) (by simp; omega)
  have hr := Kd.Q_drop (k := (1 : Int).toNat) h.own (by simp)
  have hob : (Value.slice (if c = (1 : Int).toNat then some ad else (some ad).map (·.add ((1 : Int).toNat * 1))) ((t :: r).length - (1 : Int).toNat) (c - (1 : Int).toNat)).ownBlock = (Value.slice (some ad) (t :: r).length c).ownBlock := by
    split
    · rfl
    · simp [Value.ownBlock]; unfold Addr.add; split <;> rfl
  have el : (t :: r).length - (1 : Int).toNat = r.length := by simp
  have ed : (t :: r).drop (1 : Int).toNat = r := rfl
  have es : (Kd.int .i64).sz = 1 := rfl
  rw [el] at hcut hob
  rw [el, ed, es] at hr
  refine ⟨_, _, hcut, ⟨h.bel, h.blk, h.var, h.busy, h.stp, h.low, h.ne, ?_, hr⟩⟩
  rw [hob]
  exact h.res
theorem Wk.look (h : Wk w W kb k19 gm gs a b s fB S v5 r1 v work) (x : Int) {g : Int} (hg : (S x).getD 0 = g) : (Instr.lookup 38 (.map (some gs)) (.int .i64 x) false).run Try.prog W = .ok (.int .i64 g) W := by
  have hz : (zeroValue 3).run Try.prog W = .ok (.int .i64 0) W := by kernel_rfl
  have := map_lookup Try.underlying38 hz h.stp x
  rw [sv_get, hg] at this
  exact this
theorem Wk.look_ok (h : Wk w W kb k19 gm gs a b s fB S v5 r1 v work) (x : Int) {g : Int} {sn : Bool} (hg : (S x).getD 0 = g) (hs : (S x).isSome = sn) : (Instr.lookup 38 (.map (some gs)) (.int .i64 x) true).run Try.prog W = .ok (.tuple #[.int .i64 g, .bool sn]) W := by
  have hz : (zeroValue 3).run Try.prog W = .ok (.int .i64 0) W := by kernel_rfl
  have := map_lookup_ok Try.underlying38 hz h.stp x
  rw [sv_get, sv_some, hg, hs] at this
  exact this
theorem Wk.is (h : Wk w W kb k19 gm gs a b s fB S v5 r1 v work) {x : Int} {z : Bool} (hz : (fB x).getD (.bool false) = .bool z) : (Instr.lookup 32 (.map (some gm)) (.int .i64 x) false).run Try.prog W = .ok (.bool z) W := by
  have hz0 : (zeroValue 4).run Try.prog W = .ok (.bool false) W := by kernel_rfl
  have := map_lookup Try.underlying32 hz0 h.busy x
  rw [hz] at this
  exact this
theorem nx_ok {base : Nat} {work : List Int} (hR : Kd.R (Kd.int .i64) 3 W' W.heap.size (fun _ => True) vn nx) (ho : Kd.Q (Kd.int .i64) 3 W base (fun _ => True) v work) (hle : base ≤ W.heap.size) : Kd.Q (Kd.int .i64) 3 W' base (fun k => True ∧ some k ≠ v.ownBlock) vn nx :=
  Kd.Q_lower (Kd.Q_mono (Kd.Q_bound (Kd.Q_of_R hR)) (fun k hk => ⟨trivial, fun he => by have := Kd.Q_lt ho k he.symm; have := hk.2.1; omega⟩)) hle
theorem nx_at {adn : Addr} {cn base j : Nat} {x : Int} {ok : Nat → Prop} (h : Kd.Q (Kd.int .i64) 3 W base ok (.slice (some adn) nx.length cn) nx) (hj : j < nx.length) (hx : nx.getD j 0 = x) : W.cell? (adn.add j) = some (.int .i64 x) := by
  obtain ⟨ad, e, hc⟩ := Kd.at_int (Kd.Q_reads' h).2.2 (j : Int) (by omega) (by omega)
  obtain rfl := Option.some.inj e
  have hrd : rd nx (j : Int) = x := by unfold rd; rw [Int.toNat_natCast]; exact hx
  rw [hrd, Int.toNat_natCast] at hc
  exact hc
theorem nx_some {A : Option Addr} {cn base : Nat} {ok : Nat → Prop} (h : Kd.Q (Kd.int .i64) 3 W base ok (.slice A nx.length cn) nx) (hj : 0 < nx.length) : ∃ adn, A = some adn := by
  obtain ⟨ad, e, hc⟩ := Kd.at_int (Kd.Q_reads' h).2.2 0 (by omega) (by omega)
  exact ⟨ad, e⟩
theorem Wk.start {w5 W7 w9 : World} {v9 : Value} {from_ : Int} {base5 : Nat} (hB5 : Below w.heap.size w w5) (hK : w5.heap[kb]? = some (.cells #[.int .i64 a, .int .i64 b, .string s] 25 (0, 0))) (hV : w5.heap[k19]? = some (.cells #[.map (some gm)] 32 (0, 0))) (hM : MapIs w5 gm fB)
    (hR : Kd.R (Kd.int .i64) 3 w5 base5 (fun _ => True) v5 r1) (hb5 : w.heap.size ≤ base5) (hm7 : MapIs W7 w5.heap.size (mUp (fun _ => none) from_ (.int .i64 0))) (hbut : But (w5.alloc (.map #[] 0)) W7 w5.heap.size)
    (ho9 : Kd.R (Kd.int .i64) 3 w9 W7.heap.size (fun _ => True) v9 [from_]) (hb9 : Below W7.heap.size W7 w9) :
    Wk w w9 kb k19 gm w5.heap.size a b s fB (fun j => if j = from_ then some 0 else none) v5 r1 v9 [from_] := by
  have hba := below_alloc (Below.refl w5.heap.size w5) (.map #[] 0)
  have hsz : (w5.alloc (.map #[] 0)).heap.size = w5.heap.size + 1 := by simp
  have h57 : Below w5.heap.size w5 W7 := ⟨hbut.os.trans hba.os, hbut.tape.trans hba.tape, hbut.output.trans hba.output, by rw [hbut.size]; exact hba.size, fun k hk => (hbut.block k (by omega)).trans (hba.block k hk)⟩
  have h59 : Below w5.heap.size w5 w9 := below_then h57 h57.size hb9
  have hsv : mUp (fun _ => none) from_ (.int .i64 0) = sv (fun j => if j = from_ then some 0 else none) := by
    funext k
    by_cases e : k = from_ <;> simp [mUp, sv, e]
  rw [hsv] at hm7
  have h5 := hB5.size
  have h7 := h57.size
  have hgm := hM.lt
  refine ⟨below_then hB5 hB5.size h59, (h59.block _ (blk_lt hK)).trans hK, (h59.block _ (blk_lt hV)).trans hV, hM.keep (h59.block _ hM.lt), hm7.keep (hb9.block _ hm7.lt), h5, by omega, ?_, Kd.Q_lower (Kd.Q_of_R ho9) (by omega)⟩
  refine Kd.Q_mono (Kd.Q_lower (Kd.Q_below (Kd.Q_bound (Kd.Q_of_R hR)) h59) hb5) (fun k hk => ⟨trivial, fun he => ?_⟩)
  have h1 := Kd.Q_base (Kd.Q_of_R ho9) k he.symm
  have h2 := hk.2.2.1
  omega
end
theorem fd_len (q : SP) (B : Int → Bool) : ∀ (n : Nat) (l : List S51) (F : Int → Option (Int × Int × Bool)) (R : List Int × Bool), fd q B n l F = some R → R.1.length ≤ 100000
  | 0, l, F, R, h => by
    unfold fd at h
    obtain rfl := Option.some.inj h
    simp
  | n + 1, l, F, R, h => by
    unfold fd at h
    split at h
    · split at h
      · obtain rfl := Option.some.inj h
        simp
      · split at h
        · obtain ⟨r, hr, h⟩ := Option.bind_eq_some_iff.1 h
          split at h
          · rename_i hl
            obtain rfl := Option.some.inj h
            simpa using hl
          · cases h
        · obtain ⟨nx, hnx, h⟩ := Option.bind_eq_some_iff.1 h
          split at h
          · obtain ⟨s, hs, h⟩ := Option.bind_eq_some_iff.1 h
            exact fd_len q B n _ _ R h
          · cases h
    · cases h
/-- what Find answers is right -/
theorem find_short {a b : Int} {s : ByteArray} (h : Okd a b s) (h2 : 2 ≤ a) {from_ goal near : Int} (hn : 0 ≤ near ∧ near ≤ 9223372036854775807) (hf : onB s from_ = true) (hg : onB s goal = true) (hs : s.size ≤ 400) (busy : List Int) (hbl : busy.length ≤ 1000) :
    ∃ R : List Int × Bool, R.1.length ≤ 100000 ∧ Pure.Good a b s (fun x => decide (x ∈ busy)) goal near from_ R ∧ ∀ W bz, Bz W bz (fun x => decide (x ∈ busy)) → Calls Try.prog 8 #[.agg #[.int .i64 a, .int .i64 b, .string s], bz, .int .i64 from_, .int .i64 goal, .int .i64 near] W fun e W' => ∃ vo, e = .returned (.tuple #[vo, .bool R.2]) ∧ Kd.R (Kd.int .i64) 3 W' W.heap.size (fun _ => True) vo R.1 ∧ Below W.heap.size W W' := by
  obtain ⟨R, hR0, K, hK⟩ := find_on h h2 hn hf hg busy hbl .nilFunc
  refine ⟨R, fd_len _ _ _ _ _ _ (hR0 0), find_good h hn hg hf hs busy hbl .nilFunc 0 R (hR0 0), fun W bz hbz => ?_⟩
  obtain ⟨R', hR, K', hK'⟩ := find_on h h2 hn hf hg busy hbl bz
  have e1 := hK (K + K') (by omega)
  have e2 := hK' (K + K') (by omega)
  rw [e1] at e2
  obtain rfl := Option.some.inj e2
  have hfr := farI_range h from_ goal
  exact find_yes W a b s bz _ from_ goal near (farI a s from_ goal) R hbz (onB_true hf) (onB_true hg) hn (far_g h from_ goal 5 (by omega)) ⟨hfr.1, by omega⟩ hR
/-- the busy ones, as the law's map has them -/
def fm (busy : List Int) (i : Nat) : Int → Option Value := fun k => if k ∈ busy.take i then some (.bool true) else none
theorem fm_step (busy : List Int) (i : Nat) (h : i < busy.length) : mUp (fm busy i) busy[i] (.bool true) = fm busy (i + 1) := by
  funext k
  unfold mUp fm
  have hm : k ∈ busy.take (i + 1) ↔ k ∈ busy.take i ∨ k = busy[i] := by rw [List.take_succ_eq_append_getElem h, List.mem_append, List.mem_singleton]
  by_cases e : k = busy[i]
  · rw [if_pos e, if_pos (hm.2 (.inr e))]
  · rw [if_neg e]
    by_cases hk : k ∈ busy.take i
    · rw [if_pos hk, if_pos (hm.2 (.inl hk))]
    · rw [if_neg hk, if_neg (fun hh => (hm.1 hh).elim hk e)]
end Go.Proofs.Ytkbimhngbdbgdaa.PPathFinds
