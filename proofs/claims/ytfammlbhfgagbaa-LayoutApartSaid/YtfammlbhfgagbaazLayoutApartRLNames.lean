/- Two facts of the program. -/
import Derived.Test.YtfammlbhfgagbaaProg
import Derived.Test.YtfammlbhfgagbaazLayoutApartRL12
namespace Go.Proofs.YtfammlbhfgagbaaRL
open Go
theorem names : namesOk Try.prog = true := by kernel_rfl
theorem mixed : Try.prog.follows .mixedOrders = true := by kernel_rfl
end Go.Proofs.YtfammlbhfgagbaaRL
