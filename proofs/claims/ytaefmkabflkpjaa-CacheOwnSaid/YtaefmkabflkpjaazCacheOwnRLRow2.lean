/- RL: rows of laws whose arguments go by value, out of a call that is known; rows of numbers within an argument. -/
import Derived.Test.YtaefmkabflkpjaazCacheOwnRLRow
import Derived.Test.YtaefmkabflkpjaazCacheOwnRL14
namespace Go.Proofs.YtaefmkabflkpjaaRL
open Go Go.ChangeShapes Go.WideShapes Go.ChangeAt Go.RowKit Go.Proofs.YtaefmkabflkpjaaR
set_option linter.unusedVariables false
end Go.Proofs.YtaefmkabflkpjaaRL
