/- From the listed table of rules to what the walks ask. No condition. -/
import Derived.Test.YtfdbibddhneklaaDoorU1
import Derived.Lib.LaidTab
import Derived.OpenShut
namespace Go.Proofs.YtfdbibddhneklaaDoor
open Go.RowKit
/-- a row of the table, as it is listed -/
def rowDs (k : Nat) : List (DataW Unit) := [.lit (.int .i64 (rr k 0)), .lit (.int .i64 (rr k 1)), .lit (.int .i64 (rr k 2)), .lit (.int .i64 (rr k 3)), .lit (.int .i64 (rr k 4)), .lit (.int .i64 (rr k 5)), .lit (.int .i64 (rr k 6)), .lit (.int .i64 (rr k 7)), .lit (.int .i64 (rr k 8)), .lit (.int .u8 (rr k 9)), .lit (.bool (boltB k))]
theorem one_cell {cs : List Value} {o : Nat} {v : Value} (h : (cs.drop o).take 1 = [v]) : cs[o]? = some v := by
  have := congrArg (·[0]?) h
  simpa [List.getElem?_take, List.getElem?_drop] using this
theorem field_int {enc : TypeId × Value → Unit} {w : World} {base : Nat} {sp : Nat → Bool} {held : Bool} {n : Nat} {cs : List Value} {xs : List (DataW Unit × List MemPlace)} {t : TypeId} {o i : Nat} {z : Int} {q : IntKind}
    (ht : Tryd.prog.underlying t = some (.int q)) (he : DataW.trod enc Tryd.prog w base sp held n t ((cs.drop o).take 1) = xs[i]?) (hz : (xs.map (·.1))[i]? = some (.lit (.int q z))) : cs[o]? = some (.int q z) := by
  rw [List.getElem?_map] at hz
  obtain ⟨b, hb, hb2⟩ := Option.map_eq_some_iff.1 hz
  rw [hb] at he
  obtain ⟨z', hc, hz', _⟩ := DataW.trod_int ht he
  rw [hz'] at hb2
  simp at hb2
  subst hb2
  exact one_cell hc
theorem field_bool {enc : TypeId × Value → Unit} {w : World} {base : Nat} {sp : Nat → Bool} {held : Bool} {n : Nat} {cs : List Value} {xs : List (DataW Unit × List MemPlace)} {t : TypeId} {o i : Nat} {z : Bool}
    (ht : Tryd.prog.underlying t = some .bool) (he : DataW.trod enc Tryd.prog w base sp held n t ((cs.drop o).take 1) = xs[i]?) (hz : (xs.map (·.1))[i]? = some (.lit (.bool z))) : cs[o]? = some (.bool z) := by
  rw [List.getElem?_map] at hz
  obtain ⟨b, hb, hb2⟩ := Option.map_eq_some_iff.1 hz
  rw [hb] at he
  obtain ⟨z', hc, hz'⟩ := DataW.trod_bool ht he
  rw [hz'] at hb2
  simp at hb2
  subst hb2
  exact one_cell hc
theorem row_of_trod {enc : TypeId × Value → Unit} {w : World} {base : Nat} {sp : Nat → Bool} {held : Bool} {m : Nat} {cs : List Value} {p : List MemPlace} {k : Nat}
    (h : DataW.trod enc Tryd.prog w base sp held m 32 cs = some (.agg (rowDs k), p)) : ∀ j, j < 11 → cs[j]? = some ((kcells k).getD j undef) := by
  obtain ⟨xs, n, rfl, hx, hl, hn, hf⟩ := DataW.trod_struct Tryd.underlying32 h
  have hx1 := congrArg Prod.fst hx
  simp only [DataW.agg.injEq] at hx1
  have c3 : Tryd.prog.cellsOf 3 = 1 := by kernel_rfl
  have c4 : Tryd.prog.cellsOf 4 = 1 := by kernel_rfl
  have c5 : Tryd.prog.cellsOf 5 = 1 := by kernel_rfl
  intro j hj
  obtain h | h | h | h | h | h | h | h | h | h | h : j = 0 ∨ j = 1 ∨ j = 2 ∨ j = 3 ∨ j = 4 ∨ j = 5 ∨ j = 6 ∨ j = 7 ∨ j = 8 ∨ j = 9 ∨ j = 10 := by omega
  · subst h
    have he : DataW.trod enc Tryd.prog w base sp held n 3 ((cs.drop 0).take (Tryd.prog.cellsOf 3)) = xs[0]? := hf 0 _ rfl
    rw [c3] at he
    exact field_int Tryd.underlying3 he (by rw [← hx1]; rfl)
  · subst h
    have he : DataW.trod enc Tryd.prog w base sp held n 3 ((cs.drop 1).take (Tryd.prog.cellsOf 3)) = xs[1]? := hf 1 _ rfl
    rw [c3] at he
    exact field_int Tryd.underlying3 he (by rw [← hx1]; rfl)
  · subst h
    have he : DataW.trod enc Tryd.prog w base sp held n 3 ((cs.drop 2).take (Tryd.prog.cellsOf 3)) = xs[2]? := hf 2 _ rfl
    rw [c3] at he
    exact field_int Tryd.underlying3 he (by rw [← hx1]; rfl)
  · subst h
    have he : DataW.trod enc Tryd.prog w base sp held n 3 ((cs.drop 3).take (Tryd.prog.cellsOf 3)) = xs[3]? := hf 3 _ rfl
    rw [c3] at he
    exact field_int Tryd.underlying3 he (by rw [← hx1]; rfl)
  · subst h
    have he : DataW.trod enc Tryd.prog w base sp held n 3 ((cs.drop 4).take (Tryd.prog.cellsOf 3)) = xs[4]? := hf 4 _ rfl
    rw [c3] at he
    exact field_int Tryd.underlying3 he (by rw [← hx1]; rfl)
  · subst h
    have he : DataW.trod enc Tryd.prog w base sp held n 3 ((cs.drop 5).take (Tryd.prog.cellsOf 3)) = xs[5]? := hf 5 _ rfl
    rw [c3] at he
    exact field_int Tryd.underlying3 he (by rw [← hx1]; rfl)
  · subst h
    have he : DataW.trod enc Tryd.prog w base sp held n 3 ((cs.drop 6).take (Tryd.prog.cellsOf 3)) = xs[6]? := hf 6 _ rfl
    rw [c3] at he
    exact field_int Tryd.underlying3 he (by rw [← hx1]; rfl)
  · subst h
    have he : DataW.trod enc Tryd.prog w base sp held n 3 ((cs.drop 7).take (Tryd.prog.cellsOf 3)) = xs[7]? := hf 7 _ rfl
    rw [c3] at he
    exact field_int Tryd.underlying3 he (by rw [← hx1]; rfl)
  · subst h
    have he : DataW.trod enc Tryd.prog w base sp held n 3 ((cs.drop 8).take (Tryd.prog.cellsOf 3)) = xs[8]? := hf 8 _ rfl
    rw [c3] at he
    exact field_int Tryd.underlying3 he (by rw [← hx1]; rfl)
  · subst h
    have he : DataW.trod enc Tryd.prog w base sp held n 5 ((cs.drop 9).take (Tryd.prog.cellsOf 5)) = xs[9]? := hf 9 _ rfl
    rw [c5] at he
    exact field_int Tryd.underlying5 he (by rw [← hx1]; rfl)
  · subst h
    have he : DataW.trod enc Tryd.prog w base sp held n 4 ((cs.drop 10).take (Tryd.prog.cellsOf 4)) = xs[10]? := hf 10 _ rfl
    rw [c4] at he
    exact field_bool Tryd.underlying4 he (by rw [← hx1]; rfl)
theorem rtab_of_laid {W : World} {d : DataW Unit} (hd : d = .agg [.agg (rowDs 0), .agg (rowDs 1), .agg (rowDs 2), .agg (rowDs 3), .agg (rowDs 4), .agg (rowDs 5)]) (h : laidMet Tryd.prog [("rematch/rules.table", d)] W) : RTab W := by
  subst hd
  obtain ⟨ps, ⟨g', t', cs, fuel, p, q, hg', ht', hvar, hd, _, _⟩, _⟩ := h
  have hg : Tryd.prog.globalNamed "rematch/rules.table" = some 1 := by kernel_rfl
  have hty : (Tryd.prog.globals[1]?).map (·.type) = some 41 := by kernel_rfl
  obtain rfl := Option.some.inj (hg.symm.trans hg')
  obtain rfl := Option.some.inj (hty.symm.trans ht')
  obtain ⟨xs, n, rfl, hx, hl, hn, hf⟩ := DataW.trod_array Tryd.underlying41 hd
  have hx1 := congrArg Prod.fst hx
  simp only [DataW.agg.injEq] at hx1
  have c32 : Tryd.prog.cellsOf 32 = 11 := by kernel_rfl
  intro k hk j hj
  rw [World.var?_cell hg hvar]
  have he := hf k hk
  rw [c32] at he
  have hk2 : (xs.map (·.1))[k]? = some (.agg (rowDs k)) := by
    rw [← hx1]
    obtain h | h | h | h | h | h : k = 0 ∨ k = 1 ∨ k = 2 ∨ k = 3 ∨ k = 4 ∨ k = 5 := by omega
    all_goals subst h; rfl
  rw [List.getElem?_map] at hk2
  obtain ⟨b, hb, hb2⟩ := Option.map_eq_some_iff.1 hk2
  rw [hb] at he
  obtain ⟨b1, b2⟩ := b
  simp only at hb2
  subst hb2
  have := row_of_trod he j hj
  rw [List.getElem?_take, if_pos hj, List.getElem?_drop, show k * 11 + j = 11 * k + j by omega] at this
  simpa using this
end Go.Proofs.YtfdbibddhneklaaDoor
