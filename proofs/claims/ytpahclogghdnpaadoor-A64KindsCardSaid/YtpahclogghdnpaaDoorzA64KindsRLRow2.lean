/- RL: rows of laws whose arguments go by value, out of a call that is known; rows of numbers within an argument. -/
import Derived.Test.YtpahclogghdnpaaDoorzA64KindsRLRow
import Derived.Test.YtpahclogghdnpaaDoorzA64KindsRL14
namespace Go.Proofs.YtpahclogghdnpaaDoorRL
open Go Go.ChangeShapes Go.WideShapes Go.ChangeAt Go.RowKit Go.Proofs.YtpahclogghdnpaaDoorR
set_option linter.unusedVariables false
theorem argsOk_int {k : IntKind} {ks : List AK} {args : List V} (h : argsOk (.one (.int k) :: ks) args) : ∃ n rest, args = .raw (.int k n) :: rest ∧ (Lit.int k n).wf = true ∧ argsOk ks rest := by
  match args, h with
  | .raw v :: vs, ⟨hv, h⟩ => obtain ⟨n, rfl, hn⟩ := hv; exact ⟨n, vs, rfl, hn, h⟩
theorem argsOk_nil {args : List V} (h : argsOk [] args) : args = [] := by
  match args, h with
  | [], _ => rfl
end Go.Proofs.YtpahclogghdnpaaDoorRL
