/- lemmas for agentWrites_holds: RowW. No conditions. -/
import Derived.Test.YtgfghffihjfbpaaGreatDoorRows
import Derived.JoinedOf
import Derived.KernelRfl
set_option linter.unusedVariables false
set_option linter.unusedSimpArgs false
namespace Go.Proofs.YtgfghffihjfbpaaGreatDoor
open Go
set_option maxRecDepth 100000 in
theorem agentWrites_closed:joinedFacts Tryz.pinned.checked.prog 3 Tryz.f3 Rows.agentWritesSpec Rows.agentWritesRow=true:=by kernel_rfl
end Go.Proofs.YtgfghffihjfbpaaGreatDoor
