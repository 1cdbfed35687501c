/-
  DERIVED. GIVEN WITH THE SEED: THE CARDS: each row of YtfdbibddhneklaaDoorRows.lean that lists a variable, with what it lists TIED to the program's text (the seventh form; the later family's looks); each row that meets fmt, with fmt's text TOLD by the authors' own Lean function (tested against real Go, not proved from fmt's source: count such statements apart). THE CARD IS WHAT COUNTS. Prove the row's statement (the work); the ties are given (YtfdbibddhneklaaDoorTie.lean); close each card by the builder's one call (the guide's Derived/Test/ToyasCard.lean, 'card_holds'). Laid BY PROGRAM, IN A SANDBOX (cutbox-door.mjs). By AI agents, Wed Nov 11 2026. No macro, syntax, notation, axiom, sorry.
-/
import Derived.Test.YtfdbibddhneklaaDoorRows
import GoSem.ClaimSeven
namespace Go.Proofs.YtfdbibddhneklaaDoor
namespace Rows

/-- THE TIED CARD OF 'rematchlaw02.CrcSums'. -/
def crcSumsCard : Claim7 := { stood := { row := crcSumsRow, standIns := [], harness := (true, "e5b9606a61c74f0f9b255df732c753ff7b3b3b7bbecba6bee077fd35cfe0757b"), looks := false }, kinds := [], alts := [], laidByText := true, laidKinds := [.data], laidTests := true, laidLooks := .later }
def CrcSumsCardSaid : Prop := Claim7.holds Tryd.pinned (.plain (OpenSpec.ofChange crcSumsSpec)) crcSumsCard

/-- THE TIED CARD OF 'rematchlaw02.CrcCuts'. -/
def crcCutsCard : Claim7 := { stood := { row := crcCutsRow, standIns := [], harness := (true, "e5b9606a61c74f0f9b255df732c753ff7b3b3b7bbecba6bee077fd35cfe0757b"), looks := false }, kinds := [], alts := [], laidByText := true, laidKinds := [.data], laidTests := true, laidLooks := .later }
def CrcCutsCardSaid : Prop := Claim7.holds Tryd.pinned (.plain (OpenSpec.ofChange crcCutsSpec)) crcCutsCard

/-- THE TIED CARD OF 'rematchlaw09.RulesTell'. -/
def rulesTellCard : Claim7 := { stood := { row := rulesTellRow, standIns := [], harness := (true, "e5b9606a61c74f0f9b255df732c753ff7b3b3b7bbecba6bee077fd35cfe0757b"), looks := false }, kinds := [], alts := [], laidByText := true, laidKinds := [.data], laidTests := true, laidLooks := .later }
def RulesTellCardSaid : Prop := Claim7.holds Tryd.pinned (.plain (OpenSpec.ofChange rulesTellSpec)) rulesTellCard

/-- THE TIED CARD OF 'rematchlaw09.RulesHold'. -/
def rulesHoldCard : Claim7 := { stood := { row := rulesHoldRow, standIns := [], harness := (true, "e5b9606a61c74f0f9b255df732c753ff7b3b3b7bbecba6bee077fd35cfe0757b"), looks := false }, kinds := [], alts := [], laidByText := true, laidKinds := [.data], laidTests := true, laidLooks := .later }
def RulesHoldCardSaid : Prop := Claim7.holds Tryd.pinned (.plain (OpenSpec.ofChange rulesHoldSpec)) rulesHoldCard

/-- THE SECOND FORM's CARD OF 'rematchlaw02.CrcSums'. -/
def crcSumsUptoCard : Claim7 := { stood := { row := crcSumsUptoRow, standIns := [], harness := (true, "e5b9606a61c74f0f9b255df732c753ff7b3b3b7bbecba6bee077fd35cfe0757b"), looks := false }, kinds := [], alts := [], laidByText := true, laidKinds := [.data], laidTests := true, laidLooks := .later }
def CrcSumsUptoCardSaid : Prop := Claim7.holds Tryd.pinned (.plain (OpenSpec.upto crcSumsSpec)) crcSumsUptoCard

/-- THE SECOND FORM's CARD OF 'rematchlaw02.CrcCuts'. -/
def crcCutsUptoCard : Claim7 := { stood := { row := crcCutsUptoRow, standIns := [], harness := (true, "e5b9606a61c74f0f9b255df732c753ff7b3b3b7bbecba6bee077fd35cfe0757b"), looks := false }, kinds := [], alts := [], laidByText := true, laidKinds := [.data], laidTests := true, laidLooks := .later }
def CrcCutsUptoCardSaid : Prop := Claim7.holds Tryd.pinned (.plain (OpenSpec.upto crcCutsSpec)) crcCutsUptoCard

/-- THE SECOND FORM's CARD OF 'rematchlaw09.RulesTell'. -/
def rulesTellUptoCard : Claim7 := { stood := { row := rulesTellUptoRow, standIns := [], harness := (true, "e5b9606a61c74f0f9b255df732c753ff7b3b3b7bbecba6bee077fd35cfe0757b"), looks := false }, kinds := [], alts := [], laidByText := true, laidKinds := [.data], laidTests := true, laidLooks := .later }
def RulesTellUptoCardSaid : Prop := Claim7.holds Tryd.pinned (.plain (OpenSpec.upto rulesTellSpec)) rulesTellUptoCard

/-- THE SECOND FORM's CARD OF 'rematchlaw09.RulesHold'. -/
def rulesHoldUptoCard : Claim7 := { stood := { row := rulesHoldUptoRow, standIns := [], harness := (true, "e5b9606a61c74f0f9b255df732c753ff7b3b3b7bbecba6bee077fd35cfe0757b"), looks := false }, kinds := [], alts := [], laidByText := true, laidKinds := [.data], laidTests := true, laidLooks := .later }
def RulesHoldUptoCardSaid : Prop := Claim7.holds Tryd.pinned (.plain (OpenSpec.upto rulesHoldSpec)) rulesHoldUptoCard
end Rows
end Go.Proofs.YtfdbibddhneklaaDoor
