/- Two facts of the program. -/
import Derived.Test.YtecclemkfdibbaaProg
import Derived.Test.YtecclemkfdibbaazMemBytesRL12
namespace Go.Proofs.YtecclemkfdibbaaRL
open Go
theorem names : namesOk Try.prog = true := by kernel_rfl
theorem mixed : Try.prog.follows .mixedOrders = true := by kernel_rfl
end Go.Proofs.YtecclemkfdibbaaRL
