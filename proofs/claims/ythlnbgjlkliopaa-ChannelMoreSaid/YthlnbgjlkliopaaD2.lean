/- Channel, outright: parched, by contract. -/
import Derived.Test.YthlnbgjlkliopaaD1
import Derived.Test.YthlnbgjlkliopaaA4
set_option linter.unusedVariables false
set_option linter.unusedSimpArgs false
namespace Go.Proofs.Ythlnbgjlkliopaa
open Go.RowKit Go.Shelf
attribute [local go_sem ↓] Go.wp_at_zero Go.wp_at_succ
end Go.Proofs.Ythlnbgjlkliopaa
