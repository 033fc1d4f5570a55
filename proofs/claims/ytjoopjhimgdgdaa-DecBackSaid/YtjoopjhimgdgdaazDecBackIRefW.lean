/- brazierref3.Word as a table's line. Printed by genword.py. -/
import Derived.Test.YtjoopjhimgdgdaazDecBackIRefC
namespace Go.Proofs.Ytjoopjhimgdgdaa.isa
open Go Go.Proofs Go.Proofs.YtjoopjhimgdgdaaRL
set_option linter.unusedVariables false
set_option linter.unusedSimpArgs false
end Go.Proofs.Ytjoopjhimgdgdaa.isa
