/- Two facts of the program. -/
import Derived.Test.YtfgbaolilodjoaaProg
import Derived.Test.YtfgbaolilodjoaazHeapRoomsRL12
namespace Go.Proofs.YtfgbaolilodjoaaRL
open Go
theorem names : namesOk Try.prog = true := by kernel_rfl
theorem mixed : Try.prog.follows .mixedOrders = true := by kernel_rfl
end Go.Proofs.YtfgbaolilodjoaaRL
