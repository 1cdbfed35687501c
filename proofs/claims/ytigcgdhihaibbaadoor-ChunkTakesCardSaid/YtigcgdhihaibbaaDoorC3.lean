/- The table lies on; a listed table, an argument's row. No condition. -/
import Derived.Test.YtigcgdhihaibbaaDoorC2
import Derived.Lib.SlBytesConst
import Derived.Lib.LaidTab
import Derived.OpenShut
namespace Go.Proofs.YtigcgdhihaibbaaDoor
open Go.RowKit CrcP
theorem Tab.keep {w w1 : World} (h : Tab w) (hb : Below w.heap.size w w1) : Tab w1 := fun k hk => by
  have hc := h k hk
  exact (hb.cell (World.block_lt_of_cell? w _ hc)).trans hc
theorem Rd.keep {w w1 : World} {a : Option Addr} {n : Nat} {xs : List Int} (h : Rd w a n xs) (hb : Below w.heap.size w w1) : Rd w1 a n xs :=
  ⟨h.1, h.2.1, h.2.2.1, fun hn => by
    obtain ⟨b, o, e, hc⟩ := h.2.2.2 hn
    exact ⟨b, o, e, fun j hj => (hb.cell (World.block_lt_of_cell? w _ (hc j hj))).trans (hc j hj)⟩⟩
theorem tab_of_laid {W : World} (h : Lib.TabIs Tryd.prog W "rematch/crc.halves" .u32 [0, 498536548, 997073096, 651767980, 1994146192, 1802195444, 1303535960, 1342533948, 3988292384, 4027552580, 3604390888, 3412177804, 2607071920, 2262029012, 2685067896, 3183342108]) (hg : Tryd.prog.globalNamed "rematch/crc.halves" = some 0) : Tab W := by
  rw [← tab_all] at h
  intro k hk
  have := h.cell hg k (by simpa using hk)
  simpa [hk] using this
end Go.Proofs.YtigcgdhihaibbaaDoor
