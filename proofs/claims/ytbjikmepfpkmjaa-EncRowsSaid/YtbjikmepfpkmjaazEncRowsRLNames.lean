/- Two facts of the program. -/
import Derived.Test.YtbjikmepfpkmjaaProg
import Derived.Test.YtbjikmepfpkmjaazEncRowsRL12
namespace Go.Proofs.YtbjikmepfpkmjaaRL
open Go
theorem names : namesOk Try.prog = true := by kernel_rfl
theorem mixed : Try.prog.follows .mixedOrders = true := by kernel_rfl
end Go.Proofs.YtbjikmepfpkmjaaRL
