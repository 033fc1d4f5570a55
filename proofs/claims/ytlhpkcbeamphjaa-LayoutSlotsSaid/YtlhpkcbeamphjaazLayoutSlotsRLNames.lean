/- Two facts of the program. -/
import Derived.Test.YtlhpkcbeamphjaaProg
import Derived.Test.YtlhpkcbeamphjaazLayoutSlotsRL12
namespace Go.Proofs.YtlhpkcbeamphjaaRL
open Go
theorem names : namesOk Try.prog = true := by kernel_rfl
theorem mixed : Try.prog.follows .mixedOrders = true := by kernel_rfl
end Go.Proofs.YtlhpkcbeamphjaaRL
