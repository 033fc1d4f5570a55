/- RL, fourteenth text: what is known of a function by hand, as a table's line. -/
import Derived.Test.YtfammlbhfgagbaazLayoutApartRL13
namespace Go.Proofs.YtfammlbhfgagbaaRL
open Go
set_option linter.unusedVariables false
end Go.Proofs.YtfammlbhfgagbaaRL
