-- What one law needs of the words of the print (wip/tools/prune.py)
import Derived.Test.YtbjikmepfpkmjaazEncWordsWInv
import Derived.Test.YtbjikmepfpkmjaazEncWordsWFootNe
namespace Go.Proofs.YtbjikmepfpkmjaaW.PrintWords
open Go.RowKit
end Go.Proofs.YtbjikmepfpkmjaaW.PrintWords
namespace Go.Proofs.YtbjikmepfpkmjaaW.PrintLast
section
variable {ops : Array Oper} {a : Act} {o og : Oper} {g : Nat} {t : Tmp} {u : Bool}
end
end Go.Proofs.YtbjikmepfpkmjaaW.PrintLast
