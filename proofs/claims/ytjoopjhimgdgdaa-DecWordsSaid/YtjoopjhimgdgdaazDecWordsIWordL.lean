/- A word is one. Printed by genword.py. -/
import Derived.Test.YtjoopjhimgdgdaazDecWordsIWordP
namespace Go.Proofs.Ytjoopjhimgdgdaa.isa
open Go Go.Proofs Go.Proofs.YtjoopjhimgdgdaaRL
set_option linter.unusedVariables false
set_option linter.unusedSimpArgs false
end Go.Proofs.Ytjoopjhimgdgdaa.isa
