/- Two facts of the program. -/
import Derived.Test.YtaefmkabflkpjaaProg
import Derived.Test.YtaefmkabflkpjaazCacheOwnRL12
namespace Go.Proofs.YtaefmkabflkpjaaRL
open Go
theorem names : namesOk Try.prog = true := by kernel_rfl
theorem mixed : Try.prog.follows .mixedOrders = true := by kernel_rfl
end Go.Proofs.YtaefmkabflkpjaaRL
