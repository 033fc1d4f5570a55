/- RL, fourteenth text: what is known of a function by hand, as a table's line. -/
import Derived.Test.YtpahclogghdnpaaDoorzA64KindsRL13
namespace Go.Proofs.YtpahclogghdnpaaDoorRL
open Go
set_option linter.unusedVariables false
end Go.Proofs.YtpahclogghdnpaaDoorRL
