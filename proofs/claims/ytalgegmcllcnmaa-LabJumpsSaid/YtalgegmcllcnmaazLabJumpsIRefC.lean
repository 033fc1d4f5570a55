/- brazierref2.Check and brazierref3.Word as tables' lines. Printed by genword.py. -/
import Derived.Test.YtalgegmcllcnmaazLabJumpsIIns
namespace Go.Proofs.Ytalgegmcllcnmaa.isa
open Go Go.Proofs Go.Proofs.YtalgegmcllcnmaaRL
set_option linter.unusedVariables false
set_option linter.unusedSimpArgs false
def restP (k : Nat) (m c imm : Int) : Prop := cdP (bt k 4) c ∧ zeroP (bt k 5) imm ∧ immP k imm m c
instance (k : Nat) (m c imm : Int) : Decidable (restP k m c imm) := by unfold restP; infer_instance
end Go.Proofs.Ytalgegmcllcnmaa.isa
