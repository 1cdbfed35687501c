import Derived.Test.YtigcgdhihaibbaaDoorZ1
namespace Go.Proofs.YtigcgdhihaibbaaDoor.PLz
open Go.RowKit Go.Proofs.YtigcgdhihaibbaaDoorW.PrintWords Go.Proofs.YtigcgdhihaibbaaDoorW.PrintLast Go.Proofs.YtigcgdhihaibbaaDoorW.PrintMore
attribute [local go_sem] max2_int min2_int max_two min_two max_three min_three max_four min_four   -- for this text's walks alone
set_option linter.unusedVariables false
set_option linter.unusedSimpArgs false
def lz_key (b : List Int) (i : Nat) : Int × Int × Int := (b.getD i 0, b.getD (i + 1) 0, b.getD (i + 2) 0)
/-- places of three bytes ahead of a place, rising -/
def lz_poss (b : List Int) (at_ : Nat) (k : Int × Int × Int) : List Nat := (List.range at_).filter fun i => decide (i + 3 ≤ b.length) && (lz_key b i == k)
def lz_same (b : List Int) (p at_ : Nat) : Nat → Nat → Nat
  | 0, n => n
  | f + 1, n => if n < 66 ∧ at_ + n < b.length ∧ b.getD (p + n) 0 = b.getD (at_ + n) 0 then lz_same b p at_ f (n + 1) else n
def lz_bestF (b : List Int) (at_ : Nat) (l : List Nat) : Nat → Nat → Nat → Nat × Nat
  | 0, q, n => (q, n)
  | i + 1, q, n => if 4096 < at_ - l.getD i 0 ∨ 16 < l.length - i then (q, n) else
      if n < lz_same b (l.getD i 0) at_ 67 0 ∧ (3 < lz_same b (l.getD i 0) at_ 67 0 ∨ at_ - l.getD i 0 ≤ 128) then lz_bestF b at_ l i (l.getD i 0) (lz_same b (l.getD i 0) at_ 67 0) else lz_bestF b at_ l i q n
def lz_best (b : List Int) (at_ : Nat) : Nat × Nat := if at_ + 3 ≤ b.length then lz_bestF b at_ (lz_poss b at_ (lz_key b at_)) (lz_poss b at_ (lz_key b at_)).length 0 0 else (0, 0)
/-- literals, as tokens -/
def lz_run : Nat → List Int → List Int
  | 0, _ => []
  | f + 1, l => if 64 < l.length then 126 :: l.take 64 ++ lz_run f (l.drop 64) else if l = [] then [] else (2 * ((l.length : Int) - 1)) :: l
def lz_cut (b : List Int) (i j : Nat) : List Int := (b.drop i).take (j - i)
def lz_packF (b : List Int) : Nat → Nat → Nat → List Int → List Int
  | 0, _, _, out => out
  | f + 1, at_, plain, out => if at_ < b.length then
      (if (lz_best b at_).2 = 0 then lz_packF b f (at_ + 1) plain out
       else lz_packF b f (at_ + (lz_best b at_).2) (at_ + (lz_best b at_).2) (out ++ lz_run b.length (lz_cut b plain at_) ++ [2 * (((lz_best b at_).2 : Int) - 3) + 1] ++ wire_vb 9 ((at_ : Int) - (lz_best b at_).1 - 1)))
    else out ++ lz_run b.length (lz_cut b plain at_)
def lz_pack (b : List Int) : List Int := lz_packF b (b.length + 1) 0 0 []
/-- the packer's block -/
def lz_Blk (W : World) (g : Nat) (A : Option Addr) (m c : Nat) (at_ gm : Nat) (vo : Value) (plain : Nat) : Prop := W.heap[g]? = some (.cells #[.slice A m c, .int .i64 at_, .map (some gm), vo, .int .i64 plain] 69 (0, 0))
theorem lz_get_cell {W : World} {A : Option Addr} {l : List Int} (h : Kd.C (Kd.int .u8) W A l.length l) (j : Nat) (hj : j < l.length) : ∃ ad, A = some ad ∧ W.cell? (ad.add j) = some (.int .u8 (l.getD j 0)) := by
  obtain ⟨ad, rfl⟩ : ∃ b, A = some b := by
    cases A with
    | some b => exact ⟨b, rfl⟩
    | none => have := (wire_none none l W h rfl).1; omega
  exact ⟨ad, rfl, wire_read (some ad) l W h ad rfl j _ (by simp [hj])⟩
theorem lz_same_stop {b : List Int} {p at_ f n : Nat} (h : ¬ (n < 66 ∧ at_ + n < b.length ∧ b.getD (p + n) 0 = b.getD (at_ + n) 0)) : lz_same b p at_ f n = n := by
  cases f with
  | zero => rfl
  | succ f => rw [lz_same, if_neg h]
theorem lz_same_next {b : List Int} {p at_ f n : Nat} (h : n < 66 ∧ at_ + n < b.length ∧ b.getD (p + n) 0 = b.getD (at_ + n) 0) : lz_same b p at_ (f + 1) n = lz_same b p at_ f (n + 1) := by rw [lz_same, if_pos h]
theorem lz_same_step {b : List Int} {p at_ n : Nat} {r : Nat} (h1 : n < 66) (h2 : at_ + n < b.length) (h3 : b.getD (p + n) 0 = b.getD (at_ + n) 0) (h : lz_same b p at_ (67 - n) n = r) : lz_same b p at_ (67 - (n + 1)) (n + 1) = r := by
  rw [show 67 - n = (66 - n) + 1 by omega, lz_same_next ⟨h1, h2, h3⟩] at h
  rw [show 67 - (n + 1) = 66 - n by omega]
  exact h
theorem lz_ends {W : World} {n r m q : Nat} (h : r = n) : Ending.returned (.int .i64 (n : Int)) = .returned (.int .i64 (r : Int)) ∧ ∃ k, (W.drewN m).drewN q = W.drewN k := ⟨by rw [h], _, World.drewN_drewN ..⟩
set_option maxHeartbeats 1000000 in
theorem lz_same_calls (W : World) (g gm : Nat) (A : Option Addr) (c : Nat) (b : List Int) (at_ p plain : Nat) (vo : Value) (hg : lz_Blk W g A b.length c at_ gm vo plain) (hC : Kd.C (Kd.int .u8) W A b.length b) (hp : p < at_) (hat : at_ ≤ b.length) (hl : b.length ≤ 1000000) :
    Calls Tryd.prog 48 #[.pointer (some ⟨g, 0, none⟩), .int .i64 p] W fun e w' => e = .returned (.int .i64 (lz_same b p at_ 67 0)) ∧ ∃ n, w' = W.drewN n := by
  have hc0 : W.cell? ⟨g, 0, none⟩ = some (.slice A b.length c) := blk_cell hg 0
  have hc1 : W.cell? ⟨g, 1, none⟩ = some (.int .i64 at_) := blk_cell hg 1
  have HC := Lib.hid hC
  have HG := Lib.hid hg
  clear hC hg
  go_enter Tryd.func48, Tryd.ntmps48
  go_wp2
  go_loopw [5] (fun v wr => ∃ n m : Nat, v = .int .i64 n ∧ n ≤ 66 ∧ wr = W.drewN m ∧ Hid (lz_same b p at_ (67 - n) n = lz_same b p at_ 67 0)) (fun v _ => 66 - (intOf v).toNat)
  case atStart => exact ⟨0, 0, rfl, by omega, rfl, Lib.hid rfl⟩
  case round =>
    obtain ⟨n, m, rfl, hn, rfl, HS⟩ := hrel
    by_cases h1 : n < 66
    · have d1 : decide ((n : Int) < 66) = true := by simp; omega
      have h1' : (n : Int) < 66 := by omega
      by_cases h2 : at_ + n < b.length
      · obtain ⟨ad, rfl, ha⟩ := lz_get_cell HC.out (p + n) (by omega)
        obtain ⟨ad', e, hb⟩ := lz_get_cell HC.out (at_ + n) h2
        obtain rfl := Option.some.inj e
        obtain ⟨x, hx⟩ : ∃ x, b.getD (p + n) 0 = x := ⟨_, rfl⟩
        obtain ⟨y, hy⟩ : ∃ y, b.getD (at_ + n) 0 = y := ⟨_, rfl⟩
        rw [hx] at ha
        rw [hy] at hb
        have HX := Lib.hid hx
        have HY := Lib.hid hy
        clear hx hy e
        have h2' : (at_ : Int) + n < b.length := by omega
        by_cases hxy : x = y
        · subst hxy
          have HN := Lib.hid (lz_same_step h1 h2 (HX.out.trans HY.out.symm) HS.out)
          go_wp2
          go_quiet (fail)
          go_wp2
          go_roundw
          case rel => exact ⟨n + 1, m + nq, by go_num, by omega, rfl, HN⟩
          case measure => simp [intOf]; omega
        · have hb0 : (x == y) = false := by simpa using hxy
          have HN := Lib.hid (HS.out.symm.trans (lz_same_stop (f := 67 - n) (n := n) (fun h => hxy (HX.out.symm.trans (h.2.2.trans HY.out)))))
          clear hxy
          go_wp2
          go_quiet (fail)
          go_wp2
          go_ret
          exact lz_ends HN.out
      · have h2' : ¬ ((at_ : Int) + n < b.length) := by omega
        have d2 : decide ((at_ : Int) + n < b.length) = false := by simp; omega
        have HN := Lib.hid (HS.out.symm.trans (lz_same_stop (f := 67 - n) (n := n) (fun h => h2 h.2.1)))
        go_wp2
        go_quiet (fail)
        go_wp2
        go_ret
        exact lz_ends HN.out
    · have d1 : decide ((n : Int) < 66) = false := by simp; omega
      have HN := Lib.hid (HS.out.symm.trans (lz_same_stop (f := 67 - n) (n := n) (fun h => h1 h.1)))
      go_wp2
      go_quiet (fail)
      go_wp2
      go_ret
      exact lz_ends HN.out
end Go.Proofs.YtigcgdhihaibbaaDoor.PLz
