/- The table lies on; a listed table, an argument's row. No condition. -/
import Derived.Test.YtigcgdhihaibbaaDoorC2
import Derived.Lib.SlBytesConst
import Derived.Lib.LaidTab
import Derived.OpenShut
namespace Go.Proofs.YtigcgdhihaibbaaDoor
open Go.RowKit CrcP
theorem Tab.keep {w w1 : World} (h : Tab w) (hb : Below w.heap.size w w1) : Tab w1 := fun k hk => by
  have hc := h k hk
  exact (hb.cell (World.block_lt_of_cell? w _ hc)).trans hc
theorem Rd.keep {w w1 : World} {a : Option Addr} {n : Nat} {xs : List Int} (h : Rd w a n xs) (hb : Below w.heap.size w w1) : Rd w1 a n xs :=
  ⟨h.1, h.2.1, h.2.2.1, fun hn => by
    obtain ⟨b, o, e, hc⟩ := h.2.2.2 hn
    exact ⟨b, o, e, fun j hj => (hb.cell (World.block_lt_of_cell? w _ (hc j hj))).trans (hc j hj)⟩⟩
theorem rd_new (w : World) (l : List Int) (T : TypeId) (fr : Nat × Nat) (hl : l.length ≤ 9223372036854775807) (hx : ∀ x ∈ l, 0 ≤ x ∧ x ≤ 255) (c : Array Value) (hc : c = (l.map (Value.int .u8)).toArray) : Rd (w.alloc (.cells c T fr)) (some ⟨w.heap.size, 0, none⟩) l.length l := by
  subst hc
  refine ⟨rfl, hl, hx, fun _ => ⟨_, _, rfl, fun j hj => ?_⟩⟩
  rw [World.cell?_alloc_mark]
  simp [hj]
theorem rd_nil (w : World) : Rd w none 0 [] := ⟨rfl, by omega, by simp, fun h => absurd h (by omega)⟩
theorem tab_of_laid {W : World} (h : Lib.TabIs Tryd.prog W "rematch/crc.halves" .u32 [0, 498536548, 997073096, 651767980, 1994146192, 1802195444, 1303535960, 1342533948, 3988292384, 4027552580, 3604390888, 3412177804, 2607071920, 2262029012, 2685067896, 3183342108]) (hg : Tryd.prog.globalNamed "rematch/crc.halves" = some 0) : Tab W := by
  rw [← tab_all] at h
  intro k hk
  have := h.cell hg k (by simpa using hk)
  simpa [hk] using this
/-- what the row's proof knows of a slice of integers that came in -/
def IsRow (k : IntKind) (w : World) (a : Option Addr) (len cap : Nat) (zs : List Int) : Prop :=
  (a = none ∧ len = 0 ∧ cap = 0 ∧ zs = []) ∨
  ∃ x, a = some x ∧ len ≤ cap ∧ cap ≤ maxLen ∧ zs.length = cap ∧ (∀ i, i < zs.length → w.cell? (x.add i) = some (.int k (zs.getD i 0))) ∧ ∀ n ∈ zs, (Lit.int k n).wf = true
theorem rd_of_row {w : World} {a : Option Addr} {len cap : Nat} {zs : List Int} (h : IsRow .u8 w a len cap zs) : Rd w a len (zs.take len) := by
  rcases h with ⟨rfl, rfl, rfl, rfl⟩ | ⟨x, rfl, hl, hm, hz, hc, hwf⟩
  · exact rd_nil w
  · refine ⟨by simp; omega, by unfold maxLen at hm; omega, fun z hz2 => bounds_u8 (hwf z (List.mem_of_mem_take hz2)), fun hn => ?_⟩
    obtain ⟨b, o, spot⟩ := x
    have h0 := hc 0 (by omega)
    have hspot : spot = none := by simpa [Addr.add] using World.cell?_spot h0
    subst hspot
    refine ⟨b, o, rfl, fun j hj => ?_⟩
    have := hc j (by omega)
    rw [Addr.add_lit] at this
    rw [this]
    simp [hj]
end Go.Proofs.YtigcgdhihaibbaaDoor
