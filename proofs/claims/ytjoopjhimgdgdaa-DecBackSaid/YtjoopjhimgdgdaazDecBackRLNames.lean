/- Two facts of the program. -/
import Derived.Test.YtjoopjhimgdgdaaProg
import Derived.Test.YtjoopjhimgdgdaazDecBackRL12
namespace Go.Proofs.YtjoopjhimgdgdaaRL
open Go
theorem names : namesOk Try.prog = true := by kernel_rfl
theorem mixed : Try.prog.follows .mixedOrders = true := by kernel_rfl
end Go.Proofs.YtjoopjhimgdgdaaRL
