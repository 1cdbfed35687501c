/- Path: Find, off the map. No condition. -/
import Derived.Test.YtkbimhngbdbgdaaFind
namespace Go.Proofs.Ytkbimhngbdbgdaa.PPathFinds
open Go.RowKit Go.Proofs.YtkbimhngbdbgdaaW.PrintWords Go.Proofs.YtkbimhngbdbgdaaW.PrintLast Go.Proofs.YtkbimhngbdbgdaaW.PrintMore
attribute [local go_sem] max2_int min2_int max_two min_two max_three min_three max_four min_four   -- for this text's walks alone
set_option linter.unusedVariables false
set_option linter.unusedSimpArgs false
set_option maxHeartbeats 8000000
set_option maxRecDepth 20000
end Go.Proofs.Ytkbimhngbdbgdaa.PPathFinds
