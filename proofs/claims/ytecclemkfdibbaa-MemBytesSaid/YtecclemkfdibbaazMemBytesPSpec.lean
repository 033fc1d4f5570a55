/- Chapter 7: the law's check, and New at one input. -/
import Derived.Test.YtecclemkfdibbaazMemBytesRLRow2
import Derived.Test.YtecclemkfdibbaazMemBytesRL15
import Derived.Test.YtecclemkfdibbaazMemBytesRLNames
namespace Go.Proofs.Ytecclemkfdibbaa.sp
open Go Go.Proofs.YtecclemkfdibbaaRL
set_option linter.unusedVariables false
def gTrue : List V → Option V
  | [] => some (.raw (.bool true))
  | _ => none
set_option maxRecDepth 100000
theorem known_ok : CallOk Try.prog 6 [] [] fun r _ => r = .ret (.raw (.bool true)) := runV_ok noD_ok names mixed (n := 200) (by kernel_rfl)
theorem gTrue_ok (args : List V) (v : V) (h : gTrue args = some v) : bdL 0 args ∧ v.bd 0 ∧ CallOk Try.prog 6 args [] fun r _ => r = .ret v := by
  unfold gTrue at h
  split at h
  · cases h; exact ⟨trivial, trivial, known_ok⟩
  · cases h
noncomputable def D : Dh := specD 6 gTrue (onlyL [7] (runD Try.prog noD 200))
theorem hD : DOk Try.prog D := specD_ok (onlyL_ok (runD_ok noD_ok names mixed 200)) gTrue_ok
end Go.Proofs.Ytecclemkfdibbaa.sp
