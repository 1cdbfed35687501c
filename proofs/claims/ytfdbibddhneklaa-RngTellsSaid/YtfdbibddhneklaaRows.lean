/-
  No cell of these rows narrows 'for every input' (looked for: loops, veiled, ifaces, maps, wideKeys, modest, calm, conditions, laid).
  DERIVED. THE GIVEN ROWS OF THIS SEAT. 2 by the template 'for every input the law returns true; each argument reads behind the call as it read before'; 0 by the template 'total and deterministic' (their statements: YtfdbibddhneklaaTotals.lean).
  GIVEN WITH THE SEED: the statements are not yours to turn. If you find one false, say at which input.
  Laid BY PROGRAM, IN A SANDBOX (cutbox-rows.mjs): the forced cells as the released guide's own fill.sh prints them over the translation 39541bc816d81d3e… (all of the seat's roots in one cut). By AI agents, Wed Nov 11 2026. No macro, syntax, notation, axiom, sorry.
-/
import Derived.Test.YtfdbibddhneklaaChecked
import GoSem.Claim
import GoSem.ClaimJoined
import GoSem.ClaimMapViews
import Derived.JoinedTies
import Derived.KernelRfl
namespace Go.Proofs.Ytfdbibddhneklaa
/- THE CELL 'sum', in the pinned program and in every row, IS THE sha256 OF THE DUMP (.gsa) THAT YtfdbibddhneklaaProg.lean LOADS. Nothing in Lean hashes anything: it is a label: what it is worth is what the hold of that sum in a sandbox is worth. -/
noncomputable def Try.pinned : Pinned := { name := "ytfdbibddhneklaa", sum := "39541bc816d81d3ede6a1007a08157bfe9013fa02409260673d9874f5f0cf78e", checked := Try.checked }
namespace Rows
def none {H : Type} : Left H := { results := [], args := [] }

/-- 'rematchlaw06.RngTells': WHATEVER THE INPUT: true; the input reads as it did. -/
def rngTellsSpec : ChangeSpec := { name := "rngTells", fn := fun _ => fun
  | [d1, d2] => { results := [.lit (.bool true)], args := [d1, d2] }
  | _ => none }
def rngTellsRow : OpenClaim := { program := "ytfdbibddhneklaa", sum := "39541bc816d81d3ede6a1007a08157bfe9013fa02409260673d9874f5f0cf78e", func := "rematch/rematchlaw06.RngTells", spec := "rngTells", unfollowed := true, recurses := true, apart := false }
def RngTellsSaid : Prop := rngTellsRow.holds Try.pinned (OpenSpec.ofChange rngTellsSpec)

/-- ITS FALSE NEIGHBOUR: 'it returns false'. Refute it at one input. -/
def rngTellsWrong : ChangeSpec := { name := "rngTells", fn := fun _ => fun
  | [d1, d2] => { results := [.lit (.bool false)], args := [d1, d2] }
  | _ => none }
def RngTellsWrongFalsely : Prop := rngTellsRow.holds Try.pinned (OpenSpec.ofChange rngTellsWrong)

/-- 'rematchlaw06.RngUnlike': WHATEVER THE INPUT: true; the input reads as it did. -/
def rngUnlikeSpec : ChangeSpec := { name := "rngUnlike", fn := fun _ => fun
  | [d1, d2] => { results := [.lit (.bool true)], args := [d1, d2] }
  | _ => none }
def rngUnlikeRow : OpenClaim := { program := "ytfdbibddhneklaa", sum := "39541bc816d81d3ede6a1007a08157bfe9013fa02409260673d9874f5f0cf78e", func := "rematch/rematchlaw06.RngUnlike", spec := "rngUnlike", unfollowed := true, recurses := true, apart := false }
def RngUnlikeSaid : Prop := rngUnlikeRow.holds Try.pinned (OpenSpec.ofChange rngUnlikeSpec)

/-- ITS FALSE NEIGHBOUR: 'it returns false'. Refute it at one input. -/
def rngUnlikeWrong : ChangeSpec := { name := "rngUnlike", fn := fun _ => fun
  | [d1, d2] => { results := [.lit (.bool false)], args := [d1, d2] }
  | _ => none }
def RngUnlikeWrongFalsely : Prop := rngUnlikeRow.holds Try.pinned (OpenSpec.ofChange rngUnlikeWrong)

/- THE SECOND FORM. 'bulk': how many values and letters a reading holds, each counted each time it is reached (what is shared counts as often as it is met; a slice's spare places count too). A statement '..UptoSaid' is the law's where the arguments, and the package variables that the reading takes, are together of bulk at most 1048576: NARROWER than '..Said'. Prove '..Said' where nothing that the law and all that it calls make is longer than what came in: it says more and counts as full. Else prove '..UptoSaid'. A law counts once. -/
mutual
def uptoBulk {H : Type} : DataW H → Nat
  | .lit (.string bytes) => bytes.length + 1
  | .lit _ => 1
  | .nil => 1
  | .ptr d => uptoBulk d + 1
  | .slice elems spare => uptoBulkAll elems + uptoBulkAll spare + 1
  | .agg parts => uptoBulkAll parts + 1
  | .iface _ d => uptoBulk d + 1
  | .map entries => uptoBulkEntries entries + 1
  | .held _ => 1
def uptoBulkAll {H : Type} : List (DataW H) → Nat
  | [] => 0
  | d :: r => uptoBulk d + uptoBulkAll r
def uptoBulkEntries {H : Type} : List (Lit × DataW H) → Nat
  | [] => 0
  | x :: r => uptoBulkEntry x + uptoBulkEntries r
def uptoBulkEntry {H : Type} : Lit × DataW H → Nat
  | (.string bytes, d) => bytes.length + uptoBulk d + 1
  | (_, d) => uptoBulk d + 1
 end
def uptoSmall : (H : Type) → List (DataW H) → Bool := fun _ ds => decide (uptoBulkAll ds ≤ 1048576)
def OpenSpec.upto (s : _root_.Go.ChangeSpec) : _root_.Go.OpenSpec := { _root_.Go.OpenSpec.ofChange s with cond := some uptoSmall }

/-- 'rematchlaw06.RngTells', WHERE WHAT IT READS IS OF BULK AT MOST 1048576: true; the input reads as it did. -/
def rngTellsUptoRow : OpenClaim := { program := "ytfdbibddhneklaa", sum := "39541bc816d81d3ede6a1007a08157bfe9013fa02409260673d9874f5f0cf78e", func := "rematch/rematchlaw06.RngTells", spec := "rngTells", unfollowed := true, recurses := true, apart := false, narrowed := true }
def RngTellsUptoSaid : Prop := rngTellsUptoRow.holds Try.pinned (OpenSpec.upto rngTellsSpec)

/-- 'rematchlaw06.RngUnlike', WHERE WHAT IT READS IS OF BULK AT MOST 1048576: true; the input reads as it did. -/
def rngUnlikeUptoRow : OpenClaim := { program := "ytfdbibddhneklaa", sum := "39541bc816d81d3ede6a1007a08157bfe9013fa02409260673d9874f5f0cf78e", func := "rematch/rematchlaw06.RngUnlike", spec := "rngUnlike", unfollowed := true, recurses := true, apart := false, narrowed := true }
def RngUnlikeUptoSaid : Prop := rngUnlikeUptoRow.holds Try.pinned (OpenSpec.upto rngUnlikeSpec)

end Rows
end Go.Proofs.Ytfdbibddhneklaa
