-- What one law needs of the words of the print (wip/tools/prune.py)
import Derived.Test.YtbjikmepfpkmjaazEncWordsWTab
/-! ### 56. Four, five, six operations that may come up next, in any order -/
namespace Go.Proofs.YtbjikmepfpkmjaaW.PrintLast
section
variable {P : Program} {ops : Array Oper} {Q : Exit → Act → World → Prop} {md : Region.Mode} {S : World → Prop} {ds : List Nat} {T : Bool × List (List Nat × List Nat)}
end
end Go.Proofs.YtbjikmepfpkmjaaW.PrintLast
