/- RL: rows of laws whose arguments go by value, out of a call that is known; rows of numbers within an argument. -/
import Derived.Test.YtbjikmepfpkmjaazEncRowsRLRow
import Derived.Test.YtbjikmepfpkmjaazEncRowsRL14
namespace Go.Proofs.YtbjikmepfpkmjaaRL
open Go Go.ChangeShapes Go.WideShapes Go.ChangeAt Go.RowKit Go.Proofs.YtbjikmepfpkmjaaR
set_option linter.unusedVariables false
end Go.Proofs.YtbjikmepfpkmjaaRL
