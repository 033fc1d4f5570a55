/- Two facts of the program. -/
import Derived.Test.YtolohpkjpgbahaaProg
import Derived.Test.YtolohpkjpgbahaazSemComparesRL12
namespace Go.Proofs.YtolohpkjpgbahaaRL
open Go
theorem names : namesOk Try.prog = true := by kernel_rfl
theorem mixed : Try.prog.follows .mixedOrders = true := by kernel_rfl
end Go.Proofs.YtolohpkjpgbahaaRL
