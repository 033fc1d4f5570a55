/- Two facts of the program. -/
import Derived.Test.YtiablglkikcicaaProg
import Derived.Test.YtiablglkikcicaazOrderPartialRL12
namespace Go.Proofs.YtiablglkikcicaaRL
open Go
theorem names : namesOk Try.prog = true := by kernel_rfl
theorem mixed : Try.prog.follows .mixedOrders = true := by kernel_rfl
end Go.Proofs.YtiablglkikcicaaRL
