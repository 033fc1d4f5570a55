/- RL: rows of laws whose arguments go by value, out of a call that is known; rows of numbers within an argument. -/
import Derived.Test.YtfgbaolilodjoaazHeapMonitorsRLRow
import Derived.Test.YtfgbaolilodjoaazHeapMonitorsRL14
namespace Go.Proofs.YtfgbaolilodjoaaRL
open Go Go.ChangeShapes Go.WideShapes Go.ChangeAt Go.RowKit Go.Proofs.YtfgbaolilodjoaaR
set_option linter.unusedVariables false
end Go.Proofs.YtfgbaolilodjoaaRL
