/- Path: the heap of open tiles: its plain functions. No condition. -/
import Derived.Test.YtkbimhngbdbgdaaPHp
namespace Go.Proofs.Ytkbimhngbdbgdaa.PPathFinds
open Go.RowKit Go.Proofs.YtkbimhngbdbgdaaW.PrintWords Go.Proofs.YtkbimhngbdbgdaaW.PrintLast Go.Proofs.YtkbimhngbdbgdaaW.PrintMore
set_option linter.unusedVariables false
set_option linter.unusedSimpArgs false
/-- one node ahead of another -/
def lt3 (a b : S51) : Bool := decide (a.f0 < b.f0) || (a.f0 == b.f0 && (decide (a.f1 < b.f1) || (a.f1 == b.f1 && decide (a.f2 < b.f2))))
def cmp3 (a b : Int) : Int := if a < b then -1 else if a > b then 1 else 0
theorem compare_eq (a b : Int) : cmp_Compare_int.f a b = some (cmp3 a b) := by
  unfold cmp_Compare_int.f cmp_isNaN_int.f cmp3
  simp
  split
  · rfl
  · split <;> rfl
theorem or3 (a b c : Int) : cmp_Or_int.f 4 [a, b, c] = some (if a = 0 then (if b = 0 then (if c = 0 then 0 else c) else b) else a) := by
  have w1 : wrap64 1 = 1 := by unfold wrap64; omega
  have w2 : wrap64 2 = 2 := by unfold wrap64; omega
  have w3 : wrap64 3 = 3 := by unfold wrap64; omega
  by_cases ha : a = 0
  · by_cases hb : b = 0
    · by_cases hc : c = 0
      · simp [cmp_Or_int.f, cmp_Or_int.l0, rd, ha, hb, hc, w1, w2, w3]
      · simp [cmp_Or_int.f, cmp_Or_int.l0, rd, ha, hb, hc, w1, w2, w3]
    · simp [cmp_Or_int.f, cmp_Or_int.l0, rd, ha, hb, w1, w2, w3]
  · simp [cmp_Or_int.f, cmp_Or_int.l0, rd, ha, w1, w2, w3]
theorem cmp3_zero {a b : Int} : cmp3 a b = 0 ↔ a = b := by unfold cmp3; split <;> (try split) <;> omega
theorem cmp3_neg {a b : Int} : cmp3 a b < 0 ↔ a < b := by unfold cmp3; split <;> (try split) <;> omega
theorem less_eq {l : List S51} {i j : Int} (h0 : 0 ≤ i) (h1 : i < l.length) (h2 : 0 ≤ j) (h3 : j < l.length) : path_nodes_Less.f 4 l i j = some (lt3 (rd_T51 l i) (rd_T51 l j)) := by
  unfold path_nodes_Less.f
  rw [if_pos h0, if_pos h1, if_pos h2, if_pos h3]
  simp only [compare_eq, Option.bind_some, or3]
  congr 1
  rw [Bool.eq_iff_iff]
  unfold lt3
  simp only [decide_eq_true_eq, Bool.or_eq_true, Bool.and_eq_true, beq_iff_eq, cmp3_zero]
  by_cases c0 : (rd_T51 l i).f0 = (rd_T51 l j).f0
  · rw [if_pos c0]
    by_cases c1 : (rd_T51 l i).f1 = (rd_T51 l j).f1
    · rw [if_pos c1]
      by_cases c2 : (rd_T51 l i).f2 = (rd_T51 l j).f2
      · rw [if_pos c2]; omega
      · rw [if_neg c2, cmp3_neg]; omega
    · rw [if_neg c1, cmp3_neg]; omega
  · rw [if_neg c0, cmp3_neg]; omega
/-- two nodes change places -/
def sw (l : List S51) (i j : Nat) : List S51 := (l.set i (l.getD j z51)).set j (l.getD i z51)
theorem swap_eq {l : List S51} {i j : Nat} (h1 : i < l.length) (h3 : j < l.length) : path_nodes_Swap.f l i j = some (sw l i j) := by
  unfold path_nodes_Swap.f
  rw [if_pos (by omega), if_pos (by omega), if_pos (by omega), if_pos (by omega)]
  rfl
theorem sw_len (l : List S51) (i j : Nat) : (sw l i j).length = l.length := by simp [sw]
def hp_up : Nat → List S51 → Nat → List S51
  | 0, l, _ => l
  | k + 1, l, j => if (j - 1) / 2 = j ∨ lt3 (l.getD j z51) (l.getD ((j - 1) / 2) z51) = false then l else hp_up k (sw l ((j - 1) / 2) j) ((j - 1) / 2)
/-- the lesser child of i among the first n -/
def hp_kid (l : List S51) (i n : Nat) : Nat := if 2 * i + 2 < n ∧ lt3 (l.getD (2 * i + 2) z51) (l.getD (2 * i + 1) z51) = true then 2 * i + 2 else 2 * i + 1
def hp_down : Nat → List S51 → Nat → Nat → List S51
  | 0, l, _, _ => l
  | k + 1, l, i, n => if n ≤ 2 * i + 1 then l else if lt3 (l.getD (hp_kid l i n) z51) (l.getD i z51) = false then l else hp_down k (sw l i (hp_kid l i n)) (hp_kid l i n) n
theorem hp_up_len : ∀ (k : Nat) (l : List S51) (j : Nat), (hp_up k l j).length = l.length
  | 0, _, _ => rfl
  | k + 1, l, j => by
    unfold hp_up
    split
    · rfl
    · rw [hp_up_len k, sw_len]
theorem hp_down_len : ∀ (k : Nat) (l : List S51) (i n : Nat), (hp_down k l i n).length = l.length
  | 0, _, _, _ => rfl
  | k + 1, l, i, n => by
    unfold hp_down
    split
    · rfl
    · split
      · rfl
      · rw [hp_down_len k, sw_len]
/-- the search's cells, but for the open ones -/
structure SP where
  mw : Int
  mh : Int
  ms : ByteArray
  busy : Value
  goal : Int
  near : Int
  gm : Nat
def SP.cel (q : SP) (v : Value) : Array Value := #[.int .i64 q.mw, .int .i64 q.mh, .string q.ms, q.busy, .int .i64 q.goal, .int .i64 q.near, v, .map (some q.gm)]
/-- the search's block and its row of open nodes -/
structure Hp (w W : World) (g : Nat) (q : SP) (v : Value) (l : List S51) : Prop where
  bel : Below w.heap.size w W
  blk : W.heap[g]? = some (.cells (q.cel v) 48 (0, 0))
  gb : w.heap.size ≤ g
  own : Kd.R k51 51 W w.heap.size (fun _ => True) v l
theorem R51_ok {W : World} {base : Nat} {ok : Nat → Prop} {v : Value} {l : List S51} (h : Kd.R k51 51 W base ok v l) : Kd.R k51 51 W base (fun k => v.ownBlock = some k) v l :=
  ⟨fun _ hk => hk, h.2.imp_ (fun _ _ hp => by obtain rfl := k51_openM hp; exact k51_mkM _ _ _ _)⟩
theorem Hp.ne {w W : World} {g : Nat} {q : SP} {v : Value} {l : List S51} (h : Hp w W g q v l) : some g ≠ v.ownBlock := Kd.R_ne h.own h.blk (by decide)
theorem Hp.form {w W : World} {g : Nat} {q : SP} {v : Value} {l : List S51} (h : Hp w W g q v l) : ∃ A c, v = .slice A l.length c ∧ l.length ≤ c ∧ Kd.C k51 W A l.length l := Kd.R_reads h.own
theorem Hp.drew {w W : World} {g : Nat} {q : SP} {v : Value} {l : List S51} (h : Hp w W g q v l) : Hp w W.drew g q v l := ⟨below_drew1 h.bel, h.blk, h.gb, Kd.R_drew h.own⟩
theorem Hp.drewN {w W : World} {g : Nat} {q : SP} {v : Value} {l : List S51} (h : Hp w W g q v l) (n : Nat) : Hp w (W.drewN n) g q v l := ⟨pw_below_drewN h.bel n, h.blk, h.gb, Kd.R_drewN h.own n⟩
theorem Hp.next {w W W' : World} {g : Nat} {q : SP} {v : Value} {l : List S51} (h : Hp w W g q v l) (hb : Below W.heap.size W W') : Hp w W' g q v l :=
  ⟨below_then h.bel h.bel.size hb, (hb.block g (blk_lt h.blk)).trans h.blk, h.gb, Kd.R_below h.own hb⟩
end Go.Proofs.Ytkbimhngbdbgdaa.PPathFinds
