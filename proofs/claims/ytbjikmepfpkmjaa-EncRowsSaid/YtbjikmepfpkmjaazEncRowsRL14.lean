/- RL, fourteenth text: what is known of a function by hand, as a table's line. -/
import Derived.Test.YtbjikmepfpkmjaazEncRowsRL13
namespace Go.Proofs.YtbjikmepfpkmjaaRL
open Go
set_option linter.unusedVariables false
end Go.Proofs.YtbjikmepfpkmjaaRL
