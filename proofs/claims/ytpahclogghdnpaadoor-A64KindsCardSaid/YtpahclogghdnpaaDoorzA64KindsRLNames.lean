/- Two facts of the program (a seat whose program is called Tryd). -/
import Derived.Test.YtpahclogghdnpaaDoorProg
import Derived.Test.YtpahclogghdnpaaDoorzA64KindsRL12
namespace Go.Proofs.Try
noncomputable abbrev prog : Go.Program := Go.Proofs.Tryd.prog
end Go.Proofs.Try
namespace Go.Proofs.YtpahclogghdnpaaDoorRL
open Go
theorem names : namesOk Try.prog = true := by kernel_rfl
theorem mixed : Try.prog.follows .mixedOrders = true := by kernel_rfl
end Go.Proofs.YtpahclogghdnpaaDoorRL
