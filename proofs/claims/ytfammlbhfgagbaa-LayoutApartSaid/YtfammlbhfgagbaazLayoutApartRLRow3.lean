/- RL and the rows of laws: arguments that are slices of flat elements. -/
import Derived.Test.YtfammlbhfgagbaazLayoutApartRLRow2
namespace Go.Proofs.YtfammlbhfgagbaaRL
open Go Go.ChangeShapes Go.WideShapes Go.ChangeAt Go.RowKit Go.Deep Go.Proofs.YtfammlbhfgagbaaR
set_option linter.unusedVariables false
set_option linter.unusedSimpArgs false
/-- An argument: flat, or a slice whose elements have these cells. -/
inductive AS where
  | flat (a : AK)
  | sl (cs : List CK)
section
variable {H : Type} {enc : TypeId × Value → H} {P : Program} {W : World} {base : Nat}
end
end Go.Proofs.YtfammlbhfgagbaaRL
