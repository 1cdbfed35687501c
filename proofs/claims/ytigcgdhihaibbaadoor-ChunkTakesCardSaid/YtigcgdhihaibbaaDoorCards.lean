/-
  DERIVED. GIVEN WITH THE SEED: THE CARDS: each row of YtigcgdhihaibbaaDoorRows.lean that lists a variable, with what it lists TIED to the program's text (the seventh form; the later family's looks); each row that meets fmt, with fmt's text TOLD by the authors' own Lean function (tested against real Go, not proved from fmt's source: count such statements apart). THE CARD IS WHAT COUNTS. Prove the row's statement (the work); the ties are given (YtigcgdhihaibbaaDoorTie.lean); close each card by the builder's one call (the guide's Derived/Test/ToyasCard.lean, 'card_holds'). Laid BY PROGRAM, IN A SANDBOX (cutbox-door.mjs). By AI agents, Wed Nov 11 2026. No macro, syntax, notation, axiom, sorry.
-/
import Derived.Test.YtigcgdhihaibbaaDoorRows
import GoSem.ClaimSeven
namespace Go.Proofs.YtigcgdhihaibbaaDoor
namespace Rows

/-- THE TIED CARD OF 'rematchlaw18.ChunkPuts'. -/
def chunkPutsCard : Claim7 := { stood := { row := chunkPutsRow, standIns := [], harness := (true, "14f75155b23da69c57d4e8760e72688ff467f2d6be647f12d4b0037e1535d648"), looks := false }, kinds := [], alts := [], laidByText := true, laidKinds := [.data], laidTests := true, laidLooks := .later }
def ChunkPutsCardSaid : Prop := Claim7.holds Tryd.pinned (.plain (OpenSpec.ofChange chunkPutsSpec)) chunkPutsCard

/-- THE TIED CARD OF 'rematchlaw18.ChunkTakes'. -/
def chunkTakesCard : Claim7 := { stood := { row := chunkTakesRow, standIns := [], harness := (true, "14f75155b23da69c57d4e8760e72688ff467f2d6be647f12d4b0037e1535d648"), looks := false }, kinds := [], alts := [], laidByText := true, laidKinds := [.data], laidTests := true, laidLooks := .later }
def ChunkTakesCardSaid : Prop := Claim7.holds Tryd.pinned (.plain (OpenSpec.ofChange chunkTakesSpec)) chunkTakesCard

/-- THE TIED CARD OF 'rematchlaw18.ChunkBack'. -/
def chunkBackCard : Claim7 := { stood := { row := chunkBackRow, standIns := [], harness := (true, "14f75155b23da69c57d4e8760e72688ff467f2d6be647f12d4b0037e1535d648"), looks := false }, kinds := [], alts := [], laidByText := true, laidKinds := [.data], laidTests := true, laidLooks := .later }
def ChunkBackCardSaid : Prop := Claim7.holds Tryd.pinned (.plain (OpenSpec.ofChange chunkBackSpec)) chunkBackCard

/-- THE SECOND FORM's CARD OF 'rematchlaw18.ChunkPuts'. -/
def chunkPutsUptoCard : Claim7 := { stood := { row := chunkPutsUptoRow, standIns := [], harness := (true, "14f75155b23da69c57d4e8760e72688ff467f2d6be647f12d4b0037e1535d648"), looks := false }, kinds := [], alts := [], laidByText := true, laidKinds := [.data], laidTests := true, laidLooks := .later }
def ChunkPutsUptoCardSaid : Prop := Claim7.holds Tryd.pinned (.plain (OpenSpec.upto chunkPutsSpec)) chunkPutsUptoCard

/-- THE SECOND FORM's CARD OF 'rematchlaw18.ChunkTakes'. -/
def chunkTakesUptoCard : Claim7 := { stood := { row := chunkTakesUptoRow, standIns := [], harness := (true, "14f75155b23da69c57d4e8760e72688ff467f2d6be647f12d4b0037e1535d648"), looks := false }, kinds := [], alts := [], laidByText := true, laidKinds := [.data], laidTests := true, laidLooks := .later }
def ChunkTakesUptoCardSaid : Prop := Claim7.holds Tryd.pinned (.plain (OpenSpec.upto chunkTakesSpec)) chunkTakesUptoCard

/-- THE SECOND FORM's CARD OF 'rematchlaw18.ChunkBack'. -/
def chunkBackUptoCard : Claim7 := { stood := { row := chunkBackUptoRow, standIns := [], harness := (true, "14f75155b23da69c57d4e8760e72688ff467f2d6be647f12d4b0037e1535d648"), looks := false }, kinds := [], alts := [], laidByText := true, laidKinds := [.data], laidTests := true, laidLooks := .later }
def ChunkBackUptoCardSaid : Prop := Claim7.holds Tryd.pinned (.plain (OpenSpec.upto chunkBackSpec)) chunkBackUptoCard
end Rows
end Go.Proofs.YtigcgdhihaibbaaDoor
