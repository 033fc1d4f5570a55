-- Written by wip/tools/pp.py (the kit's print.py, with functions proved by hand taken as given)
import Derived.Test.YtkfkonchbkiakaaDoorQx0
namespace Go.Proofs.YtkfkonchbkiakaaDoor.Q
open Go.RowKit Go.Proofs.YtkfkonchbkiakaaDoorW.PrintWords Go.Proofs.YtkfkonchbkiakaaDoorW.PrintLast Go.Proofs.YtkfkonchbkiakaaDoorW.PrintMore
open Go.Proofs.YtkfkonchbkiakaaDoor.X
attribute [local go_sem] signed_u64 signed_u32 signed_u8 max_u64 max_u32 max_u8
attribute [local go_sem] max2_int min2_int max_two min_two max_three min_three max_four min_four   -- for this text's walks alone
set_option linter.unusedVariables false
set_option linter.unusedSimpArgs false

/-! ### brazierref1_Add: function 10 -/
def brazierref1_Add.f (a0 : Int) (a1 : Int) (a2 : Bool) : Option (Int × Bool × Bool × Bool × Bool) := if a2 = true then (if a0 > (Go.bits .xor .u64 18446744073709551615 a1) then (if (wrap64 (a0)) ≥ 0 then (if (wrap64 (a1)) ≥ 0 then (if (wrap64 (IntKind.u64.wrap ((IntKind.u64.wrap (a0 + a1)) + 1))) < 0 then (some (IntKind.u64.wrap ((IntKind.u64.wrap (a0 + a1)) + 1), decide ((wrap64 (IntKind.u64.wrap ((IntKind.u64.wrap (a0 + a1)) + 1))) < 0), ((IntKind.u64.wrap ((IntKind.u64.wrap (a0 + a1)) + 1)) == 0), true, true)) else (if (wrap64 (a0)) < 0 then (if (wrap64 (a1)) < 0 then (some (IntKind.u64.wrap ((IntKind.u64.wrap (a0 + a1)) + 1), decide ((wrap64 (IntKind.u64.wrap ((IntKind.u64.wrap (a0 + a1)) + 1))) < 0), ((IntKind.u64.wrap ((IntKind.u64.wrap (a0 + a1)) + 1)) == 0), true, decide ((wrap64 (IntKind.u64.wrap ((IntKind.u64.wrap (a0 + a1)) + 1))) ≥ 0))) else (some (IntKind.u64.wrap ((IntKind.u64.wrap (a0 + a1)) + 1), decide ((wrap64 (IntKind.u64.wrap ((IntKind.u64.wrap (a0 + a1)) + 1))) < 0), ((IntKind.u64.wrap ((IntKind.u64.wrap (a0 + a1)) + 1)) == 0), true, false))) else (some (IntKind.u64.wrap ((IntKind.u64.wrap (a0 + a1)) + 1), decide ((wrap64 (IntKind.u64.wrap ((IntKind.u64.wrap (a0 + a1)) + 1))) < 0), ((IntKind.u64.wrap ((IntKind.u64.wrap (a0 + a1)) + 1)) == 0), true, false)))) else (if (wrap64 (a0)) < 0 then (if (wrap64 (a1)) < 0 then (some (IntKind.u64.wrap ((IntKind.u64.wrap (a0 + a1)) + 1), decide ((wrap64 (IntKind.u64.wrap ((IntKind.u64.wrap (a0 + a1)) + 1))) < 0), ((IntKind.u64.wrap ((IntKind.u64.wrap (a0 + a1)) + 1)) == 0), true, decide ((wrap64 (IntKind.u64.wrap ((IntKind.u64.wrap (a0 + a1)) + 1))) ≥ 0))) else (some (IntKind.u64.wrap ((IntKind.u64.wrap (a0 + a1)) + 1), decide ((wrap64 (IntKind.u64.wrap ((IntKind.u64.wrap (a0 + a1)) + 1))) < 0), ((IntKind.u64.wrap ((IntKind.u64.wrap (a0 + a1)) + 1)) == 0), true, false))) else (some (IntKind.u64.wrap ((IntKind.u64.wrap (a0 + a1)) + 1), decide ((wrap64 (IntKind.u64.wrap ((IntKind.u64.wrap (a0 + a1)) + 1))) < 0), ((IntKind.u64.wrap ((IntKind.u64.wrap (a0 + a1)) + 1)) == 0), true, false)))) else (if (wrap64 (a0)) < 0 then (if (wrap64 (a1)) < 0 then (some (IntKind.u64.wrap ((IntKind.u64.wrap (a0 + a1)) + 1), decide ((wrap64 (IntKind.u64.wrap ((IntKind.u64.wrap (a0 + a1)) + 1))) < 0), ((IntKind.u64.wrap ((IntKind.u64.wrap (a0 + a1)) + 1)) == 0), true, decide ((wrap64 (IntKind.u64.wrap ((IntKind.u64.wrap (a0 + a1)) + 1))) ≥ 0))) else (some (IntKind.u64.wrap ((IntKind.u64.wrap (a0 + a1)) + 1), decide ((wrap64 (IntKind.u64.wrap ((IntKind.u64.wrap (a0 + a1)) + 1))) < 0), ((IntKind.u64.wrap ((IntKind.u64.wrap (a0 + a1)) + 1)) == 0), true, false))) else (some (IntKind.u64.wrap ((IntKind.u64.wrap (a0 + a1)) + 1), decide ((wrap64 (IntKind.u64.wrap ((IntKind.u64.wrap (a0 + a1)) + 1))) < 0), ((IntKind.u64.wrap ((IntKind.u64.wrap (a0 + a1)) + 1)) == 0), true, false)))) else (if a0 = (Go.bits .xor .u64 18446744073709551615 a1) then (if (wrap64 (a0)) ≥ 0 then (if (wrap64 (a1)) ≥ 0 then (if (wrap64 (IntKind.u64.wrap ((IntKind.u64.wrap (a0 + a1)) + 1))) < 0 then (some (IntKind.u64.wrap ((IntKind.u64.wrap (a0 + a1)) + 1), decide ((wrap64 (IntKind.u64.wrap ((IntKind.u64.wrap (a0 + a1)) + 1))) < 0), ((IntKind.u64.wrap ((IntKind.u64.wrap (a0 + a1)) + 1)) == 0), a2, true)) else (if (wrap64 (a0)) < 0 then (if (wrap64 (a1)) < 0 then (some (IntKind.u64.wrap ((IntKind.u64.wrap (a0 + a1)) + 1), decide ((wrap64 (IntKind.u64.wrap ((IntKind.u64.wrap (a0 + a1)) + 1))) < 0), ((IntKind.u64.wrap ((IntKind.u64.wrap (a0 + a1)) + 1)) == 0), a2, decide ((wrap64 (IntKind.u64.wrap ((IntKind.u64.wrap (a0 + a1)) + 1))) ≥ 0))) else (some (IntKind.u64.wrap ((IntKind.u64.wrap (a0 + a1)) + 1), decide ((wrap64 (IntKind.u64.wrap ((IntKind.u64.wrap (a0 + a1)) + 1))) < 0), ((IntKind.u64.wrap ((IntKind.u64.wrap (a0 + a1)) + 1)) == 0), a2, false))) else (some (IntKind.u64.wrap ((IntKind.u64.wrap (a0 + a1)) + 1), decide ((wrap64 (IntKind.u64.wrap ((IntKind.u64.wrap (a0 + a1)) + 1))) < 0), ((IntKind.u64.wrap ((IntKind.u64.wrap (a0 + a1)) + 1)) == 0), a2, false)))) else (if (wrap64 (a0)) < 0 then (if (wrap64 (a1)) < 0 then (some (IntKind.u64.wrap ((IntKind.u64.wrap (a0 + a1)) + 1), decide ((wrap64 (IntKind.u64.wrap ((IntKind.u64.wrap (a0 + a1)) + 1))) < 0), ((IntKind.u64.wrap ((IntKind.u64.wrap (a0 + a1)) + 1)) == 0), a2, decide ((wrap64 (IntKind.u64.wrap ((IntKind.u64.wrap (a0 + a1)) + 1))) ≥ 0))) else (some (IntKind.u64.wrap ((IntKind.u64.wrap (a0 + a1)) + 1), decide ((wrap64 (IntKind.u64.wrap ((IntKind.u64.wrap (a0 + a1)) + 1))) < 0), ((IntKind.u64.wrap ((IntKind.u64.wrap (a0 + a1)) + 1)) == 0), a2, false))) else (some (IntKind.u64.wrap ((IntKind.u64.wrap (a0 + a1)) + 1), decide ((wrap64 (IntKind.u64.wrap ((IntKind.u64.wrap (a0 + a1)) + 1))) < 0), ((IntKind.u64.wrap ((IntKind.u64.wrap (a0 + a1)) + 1)) == 0), a2, false)))) else (if (wrap64 (a0)) < 0 then (if (wrap64 (a1)) < 0 then (some (IntKind.u64.wrap ((IntKind.u64.wrap (a0 + a1)) + 1), decide ((wrap64 (IntKind.u64.wrap ((IntKind.u64.wrap (a0 + a1)) + 1))) < 0), ((IntKind.u64.wrap ((IntKind.u64.wrap (a0 + a1)) + 1)) == 0), a2, decide ((wrap64 (IntKind.u64.wrap ((IntKind.u64.wrap (a0 + a1)) + 1))) ≥ 0))) else (some (IntKind.u64.wrap ((IntKind.u64.wrap (a0 + a1)) + 1), decide ((wrap64 (IntKind.u64.wrap ((IntKind.u64.wrap (a0 + a1)) + 1))) < 0), ((IntKind.u64.wrap ((IntKind.u64.wrap (a0 + a1)) + 1)) == 0), a2, false))) else (some (IntKind.u64.wrap ((IntKind.u64.wrap (a0 + a1)) + 1), decide ((wrap64 (IntKind.u64.wrap ((IntKind.u64.wrap (a0 + a1)) + 1))) < 0), ((IntKind.u64.wrap ((IntKind.u64.wrap (a0 + a1)) + 1)) == 0), a2, false)))) else (if (wrap64 (a0)) ≥ 0 then (if (wrap64 (a1)) ≥ 0 then (if (wrap64 (IntKind.u64.wrap ((IntKind.u64.wrap (a0 + a1)) + 1))) < 0 then (some (IntKind.u64.wrap ((IntKind.u64.wrap (a0 + a1)) + 1), decide ((wrap64 (IntKind.u64.wrap ((IntKind.u64.wrap (a0 + a1)) + 1))) < 0), ((IntKind.u64.wrap ((IntKind.u64.wrap (a0 + a1)) + 1)) == 0), false, true)) else (if (wrap64 (a0)) < 0 then (if (wrap64 (a1)) < 0 then (some (IntKind.u64.wrap ((IntKind.u64.wrap (a0 + a1)) + 1), decide ((wrap64 (IntKind.u64.wrap ((IntKind.u64.wrap (a0 + a1)) + 1))) < 0), ((IntKind.u64.wrap ((IntKind.u64.wrap (a0 + a1)) + 1)) == 0), false, decide ((wrap64 (IntKind.u64.wrap ((IntKind.u64.wrap (a0 + a1)) + 1))) ≥ 0))) else (some (IntKind.u64.wrap ((IntKind.u64.wrap (a0 + a1)) + 1), decide ((wrap64 (IntKind.u64.wrap ((IntKind.u64.wrap (a0 + a1)) + 1))) < 0), ((IntKind.u64.wrap ((IntKind.u64.wrap (a0 + a1)) + 1)) == 0), false, false))) else (some (IntKind.u64.wrap ((IntKind.u64.wrap (a0 + a1)) + 1), decide ((wrap64 (IntKind.u64.wrap ((IntKind.u64.wrap (a0 + a1)) + 1))) < 0), ((IntKind.u64.wrap ((IntKind.u64.wrap (a0 + a1)) + 1)) == 0), false, false)))) else (if (wrap64 (a0)) < 0 then (if (wrap64 (a1)) < 0 then (some (IntKind.u64.wrap ((IntKind.u64.wrap (a0 + a1)) + 1), decide ((wrap64 (IntKind.u64.wrap ((IntKind.u64.wrap (a0 + a1)) + 1))) < 0), ((IntKind.u64.wrap ((IntKind.u64.wrap (a0 + a1)) + 1)) == 0), false, decide ((wrap64 (IntKind.u64.wrap ((IntKind.u64.wrap (a0 + a1)) + 1))) ≥ 0))) else (some (IntKind.u64.wrap ((IntKind.u64.wrap (a0 + a1)) + 1), decide ((wrap64 (IntKind.u64.wrap ((IntKind.u64.wrap (a0 + a1)) + 1))) < 0), ((IntKind.u64.wrap ((IntKind.u64.wrap (a0 + a1)) + 1)) == 0), false, false))) else (some (IntKind.u64.wrap ((IntKind.u64.wrap (a0 + a1)) + 1), decide ((wrap64 (IntKind.u64.wrap ((IntKind.u64.wrap (a0 + a1)) + 1))) < 0), ((IntKind.u64.wrap ((IntKind.u64.wrap (a0 + a1)) + 1)) == 0), false, false)))) else (if (wrap64 (a0)) < 0 then (if (wrap64 (a1)) < 0 then (some (IntKind.u64.wrap ((IntKind.u64.wrap (a0 + a1)) + 1), decide ((wrap64 (IntKind.u64.wrap ((IntKind.u64.wrap (a0 + a1)) + 1))) < 0), ((IntKind.u64.wrap ((IntKind.u64.wrap (a0 + a1)) + 1)) == 0), false, decide ((wrap64 (IntKind.u64.wrap ((IntKind.u64.wrap (a0 + a1)) + 1))) ≥ 0))) else (some (IntKind.u64.wrap ((IntKind.u64.wrap (a0 + a1)) + 1), decide ((wrap64 (IntKind.u64.wrap ((IntKind.u64.wrap (a0 + a1)) + 1))) < 0), ((IntKind.u64.wrap ((IntKind.u64.wrap (a0 + a1)) + 1)) == 0), false, false))) else (some (IntKind.u64.wrap ((IntKind.u64.wrap (a0 + a1)) + 1), decide ((wrap64 (IntKind.u64.wrap ((IntKind.u64.wrap (a0 + a1)) + 1))) < 0), ((IntKind.u64.wrap ((IntKind.u64.wrap (a0 + a1)) + 1)) == 0), false, false)))))) else (if a0 > (Go.bits .xor .u64 18446744073709551615 a1) then (if (wrap64 (a0)) ≥ 0 then (if (wrap64 (a1)) ≥ 0 then (if (wrap64 (IntKind.u64.wrap ((IntKind.u64.wrap (a0 + a1))))) < 0 then (some (IntKind.u64.wrap ((IntKind.u64.wrap (a0 + a1))), decide ((wrap64 (IntKind.u64.wrap ((IntKind.u64.wrap (a0 + a1))))) < 0), ((IntKind.u64.wrap ((IntKind.u64.wrap (a0 + a1)))) == 0), true, true)) else (if (wrap64 (a0)) < 0 then (if (wrap64 (a1)) < 0 then (some (IntKind.u64.wrap ((IntKind.u64.wrap (a0 + a1))), decide ((wrap64 (IntKind.u64.wrap ((IntKind.u64.wrap (a0 + a1))))) < 0), ((IntKind.u64.wrap ((IntKind.u64.wrap (a0 + a1)))) == 0), true, decide ((wrap64 (IntKind.u64.wrap ((IntKind.u64.wrap (a0 + a1))))) ≥ 0))) else (some (IntKind.u64.wrap ((IntKind.u64.wrap (a0 + a1))), decide ((wrap64 (IntKind.u64.wrap ((IntKind.u64.wrap (a0 + a1))))) < 0), ((IntKind.u64.wrap ((IntKind.u64.wrap (a0 + a1)))) == 0), true, false))) else (some (IntKind.u64.wrap ((IntKind.u64.wrap (a0 + a1))), decide ((wrap64 (IntKind.u64.wrap ((IntKind.u64.wrap (a0 + a1))))) < 0), ((IntKind.u64.wrap ((IntKind.u64.wrap (a0 + a1)))) == 0), true, false)))) else (if (wrap64 (a0)) < 0 then (if (wrap64 (a1)) < 0 then (some (IntKind.u64.wrap ((IntKind.u64.wrap (a0 + a1))), decide ((wrap64 (IntKind.u64.wrap ((IntKind.u64.wrap (a0 + a1))))) < 0), ((IntKind.u64.wrap ((IntKind.u64.wrap (a0 + a1)))) == 0), true, decide ((wrap64 (IntKind.u64.wrap ((IntKind.u64.wrap (a0 + a1))))) ≥ 0))) else (some (IntKind.u64.wrap ((IntKind.u64.wrap (a0 + a1))), decide ((wrap64 (IntKind.u64.wrap ((IntKind.u64.wrap (a0 + a1))))) < 0), ((IntKind.u64.wrap ((IntKind.u64.wrap (a0 + a1)))) == 0), true, false))) else (some (IntKind.u64.wrap ((IntKind.u64.wrap (a0 + a1))), decide ((wrap64 (IntKind.u64.wrap ((IntKind.u64.wrap (a0 + a1))))) < 0), ((IntKind.u64.wrap ((IntKind.u64.wrap (a0 + a1)))) == 0), true, false)))) else (if (wrap64 (a0)) < 0 then (if (wrap64 (a1)) < 0 then (some (IntKind.u64.wrap ((IntKind.u64.wrap (a0 + a1))), decide ((wrap64 (IntKind.u64.wrap ((IntKind.u64.wrap (a0 + a1))))) < 0), ((IntKind.u64.wrap ((IntKind.u64.wrap (a0 + a1)))) == 0), true, decide ((wrap64 (IntKind.u64.wrap ((IntKind.u64.wrap (a0 + a1))))) ≥ 0))) else (some (IntKind.u64.wrap ((IntKind.u64.wrap (a0 + a1))), decide ((wrap64 (IntKind.u64.wrap ((IntKind.u64.wrap (a0 + a1))))) < 0), ((IntKind.u64.wrap ((IntKind.u64.wrap (a0 + a1)))) == 0), true, false))) else (some (IntKind.u64.wrap ((IntKind.u64.wrap (a0 + a1))), decide ((wrap64 (IntKind.u64.wrap ((IntKind.u64.wrap (a0 + a1))))) < 0), ((IntKind.u64.wrap ((IntKind.u64.wrap (a0 + a1)))) == 0), true, false)))) else (if a0 = (Go.bits .xor .u64 18446744073709551615 a1) then (if (wrap64 (a0)) ≥ 0 then (if (wrap64 (a1)) ≥ 0 then (if (wrap64 (IntKind.u64.wrap ((IntKind.u64.wrap (a0 + a1))))) < 0 then (some (IntKind.u64.wrap ((IntKind.u64.wrap (a0 + a1))), decide ((wrap64 (IntKind.u64.wrap ((IntKind.u64.wrap (a0 + a1))))) < 0), ((IntKind.u64.wrap ((IntKind.u64.wrap (a0 + a1)))) == 0), a2, true)) else (if (wrap64 (a0)) < 0 then (if (wrap64 (a1)) < 0 then (some (IntKind.u64.wrap ((IntKind.u64.wrap (a0 + a1))), decide ((wrap64 (IntKind.u64.wrap ((IntKind.u64.wrap (a0 + a1))))) < 0), ((IntKind.u64.wrap ((IntKind.u64.wrap (a0 + a1)))) == 0), a2, decide ((wrap64 (IntKind.u64.wrap ((IntKind.u64.wrap (a0 + a1))))) ≥ 0))) else (some (IntKind.u64.wrap ((IntKind.u64.wrap (a0 + a1))), decide ((wrap64 (IntKind.u64.wrap ((IntKind.u64.wrap (a0 + a1))))) < 0), ((IntKind.u64.wrap ((IntKind.u64.wrap (a0 + a1)))) == 0), a2, false))) else (some (IntKind.u64.wrap ((IntKind.u64.wrap (a0 + a1))), decide ((wrap64 (IntKind.u64.wrap ((IntKind.u64.wrap (a0 + a1))))) < 0), ((IntKind.u64.wrap ((IntKind.u64.wrap (a0 + a1)))) == 0), a2, false)))) else (if (wrap64 (a0)) < 0 then (if (wrap64 (a1)) < 0 then (some (IntKind.u64.wrap ((IntKind.u64.wrap (a0 + a1))), decide ((wrap64 (IntKind.u64.wrap ((IntKind.u64.wrap (a0 + a1))))) < 0), ((IntKind.u64.wrap ((IntKind.u64.wrap (a0 + a1)))) == 0), a2, decide ((wrap64 (IntKind.u64.wrap ((IntKind.u64.wrap (a0 + a1))))) ≥ 0))) else (some (IntKind.u64.wrap ((IntKind.u64.wrap (a0 + a1))), decide ((wrap64 (IntKind.u64.wrap ((IntKind.u64.wrap (a0 + a1))))) < 0), ((IntKind.u64.wrap ((IntKind.u64.wrap (a0 + a1)))) == 0), a2, false))) else (some (IntKind.u64.wrap ((IntKind.u64.wrap (a0 + a1))), decide ((wrap64 (IntKind.u64.wrap ((IntKind.u64.wrap (a0 + a1))))) < 0), ((IntKind.u64.wrap ((IntKind.u64.wrap (a0 + a1)))) == 0), a2, false)))) else (if (wrap64 (a0)) < 0 then (if (wrap64 (a1)) < 0 then (some (IntKind.u64.wrap ((IntKind.u64.wrap (a0 + a1))), decide ((wrap64 (IntKind.u64.wrap ((IntKind.u64.wrap (a0 + a1))))) < 0), ((IntKind.u64.wrap ((IntKind.u64.wrap (a0 + a1)))) == 0), a2, decide ((wrap64 (IntKind.u64.wrap ((IntKind.u64.wrap (a0 + a1))))) ≥ 0))) else (some (IntKind.u64.wrap ((IntKind.u64.wrap (a0 + a1))), decide ((wrap64 (IntKind.u64.wrap ((IntKind.u64.wrap (a0 + a1))))) < 0), ((IntKind.u64.wrap ((IntKind.u64.wrap (a0 + a1)))) == 0), a2, false))) else (some (IntKind.u64.wrap ((IntKind.u64.wrap (a0 + a1))), decide ((wrap64 (IntKind.u64.wrap ((IntKind.u64.wrap (a0 + a1))))) < 0), ((IntKind.u64.wrap ((IntKind.u64.wrap (a0 + a1)))) == 0), a2, false)))) else (if (wrap64 (a0)) ≥ 0 then (if (wrap64 (a1)) ≥ 0 then (if (wrap64 (IntKind.u64.wrap ((IntKind.u64.wrap (a0 + a1))))) < 0 then (some (IntKind.u64.wrap ((IntKind.u64.wrap (a0 + a1))), decide ((wrap64 (IntKind.u64.wrap ((IntKind.u64.wrap (a0 + a1))))) < 0), ((IntKind.u64.wrap ((IntKind.u64.wrap (a0 + a1)))) == 0), false, true)) else (if (wrap64 (a0)) < 0 then (if (wrap64 (a1)) < 0 then (some (IntKind.u64.wrap ((IntKind.u64.wrap (a0 + a1))), decide ((wrap64 (IntKind.u64.wrap ((IntKind.u64.wrap (a0 + a1))))) < 0), ((IntKind.u64.wrap ((IntKind.u64.wrap (a0 + a1)))) == 0), false, decide ((wrap64 (IntKind.u64.wrap ((IntKind.u64.wrap (a0 + a1))))) ≥ 0))) else (some (IntKind.u64.wrap ((IntKind.u64.wrap (a0 + a1))), decide ((wrap64 (IntKind.u64.wrap ((IntKind.u64.wrap (a0 + a1))))) < 0), ((IntKind.u64.wrap ((IntKind.u64.wrap (a0 + a1)))) == 0), false, false))) else (some (IntKind.u64.wrap ((IntKind.u64.wrap (a0 + a1))), decide ((wrap64 (IntKind.u64.wrap ((IntKind.u64.wrap (a0 + a1))))) < 0), ((IntKind.u64.wrap ((IntKind.u64.wrap (a0 + a1)))) == 0), false, false)))) else (if (wrap64 (a0)) < 0 then (if (wrap64 (a1)) < 0 then (some (IntKind.u64.wrap ((IntKind.u64.wrap (a0 + a1))), decide ((wrap64 (IntKind.u64.wrap ((IntKind.u64.wrap (a0 + a1))))) < 0), ((IntKind.u64.wrap ((IntKind.u64.wrap (a0 + a1)))) == 0), false, decide ((wrap64 (IntKind.u64.wrap ((IntKind.u64.wrap (a0 + a1))))) ≥ 0))) else (some (IntKind.u64.wrap ((IntKind.u64.wrap (a0 + a1))), decide ((wrap64 (IntKind.u64.wrap ((IntKind.u64.wrap (a0 + a1))))) < 0), ((IntKind.u64.wrap ((IntKind.u64.wrap (a0 + a1)))) == 0), false, false))) else (some (IntKind.u64.wrap ((IntKind.u64.wrap (a0 + a1))), decide ((wrap64 (IntKind.u64.wrap ((IntKind.u64.wrap (a0 + a1))))) < 0), ((IntKind.u64.wrap ((IntKind.u64.wrap (a0 + a1)))) == 0), false, false)))) else (if (wrap64 (a0)) < 0 then (if (wrap64 (a1)) < 0 then (some (IntKind.u64.wrap ((IntKind.u64.wrap (a0 + a1))), decide ((wrap64 (IntKind.u64.wrap ((IntKind.u64.wrap (a0 + a1))))) < 0), ((IntKind.u64.wrap ((IntKind.u64.wrap (a0 + a1)))) == 0), false, decide ((wrap64 (IntKind.u64.wrap ((IntKind.u64.wrap (a0 + a1))))) ≥ 0))) else (some (IntKind.u64.wrap ((IntKind.u64.wrap (a0 + a1))), decide ((wrap64 (IntKind.u64.wrap ((IntKind.u64.wrap (a0 + a1))))) < 0), ((IntKind.u64.wrap ((IntKind.u64.wrap (a0 + a1)))) == 0), false, false))) else (some (IntKind.u64.wrap ((IntKind.u64.wrap (a0 + a1))), decide ((wrap64 (IntKind.u64.wrap ((IntKind.u64.wrap (a0 + a1))))) < 0), ((IntKind.u64.wrap ((IntKind.u64.wrap (a0 + a1)))) == 0), false, false))))))
set_option maxHeartbeats 8000000 in
set_option maxRecDepth 100000 in
theorem brazierref1_Add.calls (a0 : Int) (a1 : Int) (a2 : Bool) (r1 : Int) (r2 : Bool) (r3 : Bool) (r4 : Bool) (r5 : Bool) (w : World) (h : brazierref1_Add.f a0 a1 a2 = some (r1, r2, r3, r4, r5)) :
    Calls Tryd.prog 10 #[.int .u64 a0, .int .u64 a1, .bool a2] w fun e w' => e = .returned (.tuple #[.int .u64 r1, .bool r2, .bool r3, .bool r4, .bool r5]) ∧ Drawn0 w w' := by
  have H : (if a2 = true then (if a0 > (Go.bits .xor .u64 18446744073709551615 a1) then (if (wrap64 (a0)) ≥ 0 then (if (wrap64 (a1)) ≥ 0 then (if (wrap64 (IntKind.u64.wrap ((IntKind.u64.wrap (a0 + a1)) + 1))) < 0 then (some (IntKind.u64.wrap ((IntKind.u64.wrap (a0 + a1)) + 1), decide ((wrap64 (IntKind.u64.wrap ((IntKind.u64.wrap (a0 + a1)) + 1))) < 0), ((IntKind.u64.wrap ((IntKind.u64.wrap (a0 + a1)) + 1)) == 0), true, true)) else (if (wrap64 (a0)) < 0 then (if (wrap64 (a1)) < 0 then (some (IntKind.u64.wrap ((IntKind.u64.wrap (a0 + a1)) + 1), decide ((wrap64 (IntKind.u64.wrap ((IntKind.u64.wrap (a0 + a1)) + 1))) < 0), ((IntKind.u64.wrap ((IntKind.u64.wrap (a0 + a1)) + 1)) == 0), true, decide ((wrap64 (IntKind.u64.wrap ((IntKind.u64.wrap (a0 + a1)) + 1))) ≥ 0))) else (some (IntKind.u64.wrap ((IntKind.u64.wrap (a0 + a1)) + 1), decide ((wrap64 (IntKind.u64.wrap ((IntKind.u64.wrap (a0 + a1)) + 1))) < 0), ((IntKind.u64.wrap ((IntKind.u64.wrap (a0 + a1)) + 1)) == 0), true, false))) else (some (IntKind.u64.wrap ((IntKind.u64.wrap (a0 + a1)) + 1), decide ((wrap64 (IntKind.u64.wrap ((IntKind.u64.wrap (a0 + a1)) + 1))) < 0), ((IntKind.u64.wrap ((IntKind.u64.wrap (a0 + a1)) + 1)) == 0), true, false)))) else (if (wrap64 (a0)) < 0 then (if (wrap64 (a1)) < 0 then (some (IntKind.u64.wrap ((IntKind.u64.wrap (a0 + a1)) + 1), decide ((wrap64 (IntKind.u64.wrap ((IntKind.u64.wrap (a0 + a1)) + 1))) < 0), ((IntKind.u64.wrap ((IntKind.u64.wrap (a0 + a1)) + 1)) == 0), true, decide ((wrap64 (IntKind.u64.wrap ((IntKind.u64.wrap (a0 + a1)) + 1))) ≥ 0))) else (some (IntKind.u64.wrap ((IntKind.u64.wrap (a0 + a1)) + 1), decide ((wrap64 (IntKind.u64.wrap ((IntKind.u64.wrap (a0 + a1)) + 1))) < 0), ((IntKind.u64.wrap ((IntKind.u64.wrap (a0 + a1)) + 1)) == 0), true, false))) else (some (IntKind.u64.wrap ((IntKind.u64.wrap (a0 + a1)) + 1), decide ((wrap64 (IntKind.u64.wrap ((IntKind.u64.wrap (a0 + a1)) + 1))) < 0), ((IntKind.u64.wrap ((IntKind.u64.wrap (a0 + a1)) + 1)) == 0), true, false)))) else (if (wrap64 (a0)) < 0 then (if (wrap64 (a1)) < 0 then (some (IntKind.u64.wrap ((IntKind.u64.wrap (a0 + a1)) + 1), decide ((wrap64 (IntKind.u64.wrap ((IntKind.u64.wrap (a0 + a1)) + 1))) < 0), ((IntKind.u64.wrap ((IntKind.u64.wrap (a0 + a1)) + 1)) == 0), true, decide ((wrap64 (IntKind.u64.wrap ((IntKind.u64.wrap (a0 + a1)) + 1))) ≥ 0))) else (some (IntKind.u64.wrap ((IntKind.u64.wrap (a0 + a1)) + 1), decide ((wrap64 (IntKind.u64.wrap ((IntKind.u64.wrap (a0 + a1)) + 1))) < 0), ((IntKind.u64.wrap ((IntKind.u64.wrap (a0 + a1)) + 1)) == 0), true, false))) else (some (IntKind.u64.wrap ((IntKind.u64.wrap (a0 + a1)) + 1), decide ((wrap64 (IntKind.u64.wrap ((IntKind.u64.wrap (a0 + a1)) + 1))) < 0), ((IntKind.u64.wrap ((IntKind.u64.wrap (a0 + a1)) + 1)) == 0), true, false)))) else (if a0 = (Go.bits .xor .u64 18446744073709551615 a1) then (if (wrap64 (a0)) ≥ 0 then (if (wrap64 (a1)) ≥ 0 then (if (wrap64 (IntKind.u64.wrap ((IntKind.u64.wrap (a0 + a1)) + 1))) < 0 then (some (IntKind.u64.wrap ((IntKind.u64.wrap (a0 + a1)) + 1), decide ((wrap64 (IntKind.u64.wrap ((IntKind.u64.wrap (a0 + a1)) + 1))) < 0), ((IntKind.u64.wrap ((IntKind.u64.wrap (a0 + a1)) + 1)) == 0), a2, true)) else (if (wrap64 (a0)) < 0 then (if (wrap64 (a1)) < 0 then (some (IntKind.u64.wrap ((IntKind.u64.wrap (a0 + a1)) + 1), decide ((wrap64 (IntKind.u64.wrap ((IntKind.u64.wrap (a0 + a1)) + 1))) < 0), ((IntKind.u64.wrap ((IntKind.u64.wrap (a0 + a1)) + 1)) == 0), a2, decide ((wrap64 (IntKind.u64.wrap ((IntKind.u64.wrap (a0 + a1)) + 1))) ≥ 0))) else (some (IntKind.u64.wrap ((IntKind.u64.wrap (a0 + a1)) + 1), decide ((wrap64 (IntKind.u64.wrap ((IntKind.u64.wrap (a0 + a1)) + 1))) < 0), ((IntKind.u64.wrap ((IntKind.u64.wrap (a0 + a1)) + 1)) == 0), a2, false))) else (some (IntKind.u64.wrap ((IntKind.u64.wrap (a0 + a1)) + 1), decide ((wrap64 (IntKind.u64.wrap ((IntKind.u64.wrap (a0 + a1)) + 1))) < 0), ((IntKind.u64.wrap ((IntKind.u64.wrap (a0 + a1)) + 1)) == 0), a2, false)))) else (if (wrap64 (a0)) < 0 then (if (wrap64 (a1)) < 0 then (some (IntKind.u64.wrap ((IntKind.u64.wrap (a0 + a1)) + 1), decide ((wrap64 (IntKind.u64.wrap ((IntKind.u64.wrap (a0 + a1)) + 1))) < 0), ((IntKind.u64.wrap ((IntKind.u64.wrap (a0 + a1)) + 1)) == 0), a2, decide ((wrap64 (IntKind.u64.wrap ((IntKind.u64.wrap (a0 + a1)) + 1))) ≥ 0))) else (some (IntKind.u64.wrap ((IntKind.u64.wrap (a0 + a1)) + 1), decide ((wrap64 (IntKind.u64.wrap ((IntKind.u64.wrap (a0 + a1)) + 1))) < 0), ((IntKind.u64.wrap ((IntKind.u64.wrap (a0 + a1)) + 1)) == 0), a2, false))) else (some (IntKind.u64.wrap ((IntKind.u64.wrap (a0 + a1)) + 1), decide ((wrap64 (IntKind.u64.wrap ((IntKind.u64.wrap (a0 + a1)) + 1))) < 0), ((IntKind.u64.wrap ((IntKind.u64.wrap (a0 + a1)) + 1)) == 0), a2, false)))) else (if (wrap64 (a0)) < 0 then (if (wrap64 (a1)) < 0 then (some (IntKind.u64.wrap ((IntKind.u64.wrap (a0 + a1)) + 1), decide ((wrap64 (IntKind.u64.wrap ((IntKind.u64.wrap (a0 + a1)) + 1))) < 0), ((IntKind.u64.wrap ((IntKind.u64.wrap (a0 + a1)) + 1)) == 0), a2, decide ((wrap64 (IntKind.u64.wrap ((IntKind.u64.wrap (a0 + a1)) + 1))) ≥ 0))) else (some (IntKind.u64.wrap ((IntKind.u64.wrap (a0 + a1)) + 1), decide ((wrap64 (IntKind.u64.wrap ((IntKind.u64.wrap (a0 + a1)) + 1))) < 0), ((IntKind.u64.wrap ((IntKind.u64.wrap (a0 + a1)) + 1)) == 0), a2, false))) else (some (IntKind.u64.wrap ((IntKind.u64.wrap (a0 + a1)) + 1), decide ((wrap64 (IntKind.u64.wrap ((IntKind.u64.wrap (a0 + a1)) + 1))) < 0), ((IntKind.u64.wrap ((IntKind.u64.wrap (a0 + a1)) + 1)) == 0), a2, false)))) else (if (wrap64 (a0)) ≥ 0 then (if (wrap64 (a1)) ≥ 0 then (if (wrap64 (IntKind.u64.wrap ((IntKind.u64.wrap (a0 + a1)) + 1))) < 0 then (some (IntKind.u64.wrap ((IntKind.u64.wrap (a0 + a1)) + 1), decide ((wrap64 (IntKind.u64.wrap ((IntKind.u64.wrap (a0 + a1)) + 1))) < 0), ((IntKind.u64.wrap ((IntKind.u64.wrap (a0 + a1)) + 1)) == 0), false, true)) else (if (wrap64 (a0)) < 0 then (if (wrap64 (a1)) < 0 then (some (IntKind.u64.wrap ((IntKind.u64.wrap (a0 + a1)) + 1), decide ((wrap64 (IntKind.u64.wrap ((IntKind.u64.wrap (a0 + a1)) + 1))) < 0), ((IntKind.u64.wrap ((IntKind.u64.wrap (a0 + a1)) + 1)) == 0), false, decide ((wrap64 (IntKind.u64.wrap ((IntKind.u64.wrap (a0 + a1)) + 1))) ≥ 0))) else (some (IntKind.u64.wrap ((IntKind.u64.wrap (a0 + a1)) + 1), decide ((wrap64 (IntKind.u64.wrap ((IntKind.u64.wrap (a0 + a1)) + 1))) < 0), ((IntKind.u64.wrap ((IntKind.u64.wrap (a0 + a1)) + 1)) == 0), false, false))) else (some (IntKind.u64.wrap ((IntKind.u64.wrap (a0 + a1)) + 1), decide ((wrap64 (IntKind.u64.wrap ((IntKind.u64.wrap (a0 + a1)) + 1))) < 0), ((IntKind.u64.wrap ((IntKind.u64.wrap (a0 + a1)) + 1)) == 0), false, false)))) else (if (wrap64 (a0)) < 0 then (if (wrap64 (a1)) < 0 then (some (IntKind.u64.wrap ((IntKind.u64.wrap (a0 + a1)) + 1), decide ((wrap64 (IntKind.u64.wrap ((IntKind.u64.wrap (a0 + a1)) + 1))) < 0), ((IntKind.u64.wrap ((IntKind.u64.wrap (a0 + a1)) + 1)) == 0), false, decide ((wrap64 (IntKind.u64.wrap ((IntKind.u64.wrap (a0 + a1)) + 1))) ≥ 0))) else (some (IntKind.u64.wrap ((IntKind.u64.wrap (a0 + a1)) + 1), decide ((wrap64 (IntKind.u64.wrap ((IntKind.u64.wrap (a0 + a1)) + 1))) < 0), ((IntKind.u64.wrap ((IntKind.u64.wrap (a0 + a1)) + 1)) == 0), false, false))) else (some (IntKind.u64.wrap ((IntKind.u64.wrap (a0 + a1)) + 1), decide ((wrap64 (IntKind.u64.wrap ((IntKind.u64.wrap (a0 + a1)) + 1))) < 0), ((IntKind.u64.wrap ((IntKind.u64.wrap (a0 + a1)) + 1)) == 0), false, false)))) else (if (wrap64 (a0)) < 0 then (if (wrap64 (a1)) < 0 then (some (IntKind.u64.wrap ((IntKind.u64.wrap (a0 + a1)) + 1), decide ((wrap64 (IntKind.u64.wrap ((IntKind.u64.wrap (a0 + a1)) + 1))) < 0), ((IntKind.u64.wrap ((IntKind.u64.wrap (a0 + a1)) + 1)) == 0), false, decide ((wrap64 (IntKind.u64.wrap ((IntKind.u64.wrap (a0 + a1)) + 1))) ≥ 0))) else (some (IntKind.u64.wrap ((IntKind.u64.wrap (a0 + a1)) + 1), decide ((wrap64 (IntKind.u64.wrap ((IntKind.u64.wrap (a0 + a1)) + 1))) < 0), ((IntKind.u64.wrap ((IntKind.u64.wrap (a0 + a1)) + 1)) == 0), false, false))) else (some (IntKind.u64.wrap ((IntKind.u64.wrap (a0 + a1)) + 1), decide ((wrap64 (IntKind.u64.wrap ((IntKind.u64.wrap (a0 + a1)) + 1))) < 0), ((IntKind.u64.wrap ((IntKind.u64.wrap (a0 + a1)) + 1)) == 0), false, false)))))) else (if a0 > (Go.bits .xor .u64 18446744073709551615 a1) then (if (wrap64 (a0)) ≥ 0 then (if (wrap64 (a1)) ≥ 0 then (if (wrap64 (IntKind.u64.wrap ((IntKind.u64.wrap (a0 + a1))))) < 0 then (some (IntKind.u64.wrap ((IntKind.u64.wrap (a0 + a1))), decide ((wrap64 (IntKind.u64.wrap ((IntKind.u64.wrap (a0 + a1))))) < 0), ((IntKind.u64.wrap ((IntKind.u64.wrap (a0 + a1)))) == 0), true, true)) else (if (wrap64 (a0)) < 0 then (if (wrap64 (a1)) < 0 then (some (IntKind.u64.wrap ((IntKind.u64.wrap (a0 + a1))), decide ((wrap64 (IntKind.u64.wrap ((IntKind.u64.wrap (a0 + a1))))) < 0), ((IntKind.u64.wrap ((IntKind.u64.wrap (a0 + a1)))) == 0), true, decide ((wrap64 (IntKind.u64.wrap ((IntKind.u64.wrap (a0 + a1))))) ≥ 0))) else (some (IntKind.u64.wrap ((IntKind.u64.wrap (a0 + a1))), decide ((wrap64 (IntKind.u64.wrap ((IntKind.u64.wrap (a0 + a1))))) < 0), ((IntKind.u64.wrap ((IntKind.u64.wrap (a0 + a1)))) == 0), true, false))) else (some (IntKind.u64.wrap ((IntKind.u64.wrap (a0 + a1))), decide ((wrap64 (IntKind.u64.wrap ((IntKind.u64.wrap (a0 + a1))))) < 0), ((IntKind.u64.wrap ((IntKind.u64.wrap (a0 + a1)))) == 0), true, false)))) else (if (wrap64 (a0)) < 0 then (if (wrap64 (a1)) < 0 then (some (IntKind.u64.wrap ((IntKind.u64.wrap (a0 + a1))), decide ((wrap64 (IntKind.u64.wrap ((IntKind.u64.wrap (a0 + a1))))) < 0), ((IntKind.u64.wrap ((IntKind.u64.wrap (a0 + a1)))) == 0), true, decide ((wrap64 (IntKind.u64.wrap ((IntKind.u64.wrap (a0 + a1))))) ≥ 0))) else (some (IntKind.u64.wrap ((IntKind.u64.wrap (a0 + a1))), decide ((wrap64 (IntKind.u64.wrap ((IntKind.u64.wrap (a0 + a1))))) < 0), ((IntKind.u64.wrap ((IntKind.u64.wrap (a0 + a1)))) == 0), true, false))) else (some (IntKind.u64.wrap ((IntKind.u64.wrap (a0 + a1))), decide ((wrap64 (IntKind.u64.wrap ((IntKind.u64.wrap (a0 + a1))))) < 0), ((IntKind.u64.wrap ((IntKind.u64.wrap (a0 + a1)))) == 0), true, false)))) else (if (wrap64 (a0)) < 0 then (if (wrap64 (a1)) < 0 then (some (IntKind.u64.wrap ((IntKind.u64.wrap (a0 + a1))), decide ((wrap64 (IntKind.u64.wrap ((IntKind.u64.wrap (a0 + a1))))) < 0), ((IntKind.u64.wrap ((IntKind.u64.wrap (a0 + a1)))) == 0), true, decide ((wrap64 (IntKind.u64.wrap ((IntKind.u64.wrap (a0 + a1))))) ≥ 0))) else (some (IntKind.u64.wrap ((IntKind.u64.wrap (a0 + a1))), decide ((wrap64 (IntKind.u64.wrap ((IntKind.u64.wrap (a0 + a1))))) < 0), ((IntKind.u64.wrap ((IntKind.u64.wrap (a0 + a1)))) == 0), true, false))) else (some (IntKind.u64.wrap ((IntKind.u64.wrap (a0 + a1))), decide ((wrap64 (IntKind.u64.wrap ((IntKind.u64.wrap (a0 + a1))))) < 0), ((IntKind.u64.wrap ((IntKind.u64.wrap (a0 + a1)))) == 0), true, false)))) else (if a0 = (Go.bits .xor .u64 18446744073709551615 a1) then (if (wrap64 (a0)) ≥ 0 then (if (wrap64 (a1)) ≥ 0 then (if (wrap64 (IntKind.u64.wrap ((IntKind.u64.wrap (a0 + a1))))) < 0 then (some (IntKind.u64.wrap ((IntKind.u64.wrap (a0 + a1))), decide ((wrap64 (IntKind.u64.wrap ((IntKind.u64.wrap (a0 + a1))))) < 0), ((IntKind.u64.wrap ((IntKind.u64.wrap (a0 + a1)))) == 0), a2, true)) else (if (wrap64 (a0)) < 0 then (if (wrap64 (a1)) < 0 then (some (IntKind.u64.wrap ((IntKind.u64.wrap (a0 + a1))), decide ((wrap64 (IntKind.u64.wrap ((IntKind.u64.wrap (a0 + a1))))) < 0), ((IntKind.u64.wrap ((IntKind.u64.wrap (a0 + a1)))) == 0), a2, decide ((wrap64 (IntKind.u64.wrap ((IntKind.u64.wrap (a0 + a1))))) ≥ 0))) else (some (IntKind.u64.wrap ((IntKind.u64.wrap (a0 + a1))), decide ((wrap64 (IntKind.u64.wrap ((IntKind.u64.wrap (a0 + a1))))) < 0), ((IntKind.u64.wrap ((IntKind.u64.wrap (a0 + a1)))) == 0), a2, false))) else (some (IntKind.u64.wrap ((IntKind.u64.wrap (a0 + a1))), decide ((wrap64 (IntKind.u64.wrap ((IntKind.u64.wrap (a0 + a1))))) < 0), ((IntKind.u64.wrap ((IntKind.u64.wrap (a0 + a1)))) == 0), a2, false)))) else (if (wrap64 (a0)) < 0 then (if (wrap64 (a1)) < 0 then (some (IntKind.u64.wrap ((IntKind.u64.wrap (a0 + a1))), decide ((wrap64 (IntKind.u64.wrap ((IntKind.u64.wrap (a0 + a1))))) < 0), ((IntKind.u64.wrap ((IntKind.u64.wrap (a0 + a1)))) == 0), a2, decide ((wrap64 (IntKind.u64.wrap ((IntKind.u64.wrap (a0 + a1))))) ≥ 0))) else (some (IntKind.u64.wrap ((IntKind.u64.wrap (a0 + a1))), decide ((wrap64 (IntKind.u64.wrap ((IntKind.u64.wrap (a0 + a1))))) < 0), ((IntKind.u64.wrap ((IntKind.u64.wrap (a0 + a1)))) == 0), a2, false))) else (some (IntKind.u64.wrap ((IntKind.u64.wrap (a0 + a1))), decide ((wrap64 (IntKind.u64.wrap ((IntKind.u64.wrap (a0 + a1))))) < 0), ((IntKind.u64.wrap ((IntKind.u64.wrap (a0 + a1)))) == 0), a2, false)))) else (if (wrap64 (a0)) < 0 then (if (wrap64 (a1)) < 0 then (some (IntKind.u64.wrap ((IntKind.u64.wrap (a0 + a1))), decide ((wrap64 (IntKind.u64.wrap ((IntKind.u64.wrap (a0 + a1))))) < 0), ((IntKind.u64.wrap ((IntKind.u64.wrap (a0 + a1)))) == 0), a2, decide ((wrap64 (IntKind.u64.wrap ((IntKind.u64.wrap (a0 + a1))))) ≥ 0))) else (some (IntKind.u64.wrap ((IntKind.u64.wrap (a0 + a1))), decide ((wrap64 (IntKind.u64.wrap ((IntKind.u64.wrap (a0 + a1))))) < 0), ((IntKind.u64.wrap ((IntKind.u64.wrap (a0 + a1)))) == 0), a2, false))) else (some (IntKind.u64.wrap ((IntKind.u64.wrap (a0 + a1))), decide ((wrap64 (IntKind.u64.wrap ((IntKind.u64.wrap (a0 + a1))))) < 0), ((IntKind.u64.wrap ((IntKind.u64.wrap (a0 + a1)))) == 0), a2, false)))) else (if (wrap64 (a0)) ≥ 0 then (if (wrap64 (a1)) ≥ 0 then (if (wrap64 (IntKind.u64.wrap ((IntKind.u64.wrap (a0 + a1))))) < 0 then (some (IntKind.u64.wrap ((IntKind.u64.wrap (a0 + a1))), decide ((wrap64 (IntKind.u64.wrap ((IntKind.u64.wrap (a0 + a1))))) < 0), ((IntKind.u64.wrap ((IntKind.u64.wrap (a0 + a1)))) == 0), false, true)) else (if (wrap64 (a0)) < 0 then (if (wrap64 (a1)) < 0 then (some (IntKind.u64.wrap ((IntKind.u64.wrap (a0 + a1))), decide ((wrap64 (IntKind.u64.wrap ((IntKind.u64.wrap (a0 + a1))))) < 0), ((IntKind.u64.wrap ((IntKind.u64.wrap (a0 + a1)))) == 0), false, decide ((wrap64 (IntKind.u64.wrap ((IntKind.u64.wrap (a0 + a1))))) ≥ 0))) else (some (IntKind.u64.wrap ((IntKind.u64.wrap (a0 + a1))), decide ((wrap64 (IntKind.u64.wrap ((IntKind.u64.wrap (a0 + a1))))) < 0), ((IntKind.u64.wrap ((IntKind.u64.wrap (a0 + a1)))) == 0), false, false))) else (some (IntKind.u64.wrap ((IntKind.u64.wrap (a0 + a1))), decide ((wrap64 (IntKind.u64.wrap ((IntKind.u64.wrap (a0 + a1))))) < 0), ((IntKind.u64.wrap ((IntKind.u64.wrap (a0 + a1)))) == 0), false, false)))) else (if (wrap64 (a0)) < 0 then (if (wrap64 (a1)) < 0 then (some (IntKind.u64.wrap ((IntKind.u64.wrap (a0 + a1))), decide ((wrap64 (IntKind.u64.wrap ((IntKind.u64.wrap (a0 + a1))))) < 0), ((IntKind.u64.wrap ((IntKind.u64.wrap (a0 + a1)))) == 0), false, decide ((wrap64 (IntKind.u64.wrap ((IntKind.u64.wrap (a0 + a1))))) ≥ 0))) else (some (IntKind.u64.wrap ((IntKind.u64.wrap (a0 + a1))), decide ((wrap64 (IntKind.u64.wrap ((IntKind.u64.wrap (a0 + a1))))) < 0), ((IntKind.u64.wrap ((IntKind.u64.wrap (a0 + a1)))) == 0), false, false))) else (some (IntKind.u64.wrap ((IntKind.u64.wrap (a0 + a1))), decide ((wrap64 (IntKind.u64.wrap ((IntKind.u64.wrap (a0 + a1))))) < 0), ((IntKind.u64.wrap ((IntKind.u64.wrap (a0 + a1)))) == 0), false, false)))) else (if (wrap64 (a0)) < 0 then (if (wrap64 (a1)) < 0 then (some (IntKind.u64.wrap ((IntKind.u64.wrap (a0 + a1))), decide ((wrap64 (IntKind.u64.wrap ((IntKind.u64.wrap (a0 + a1))))) < 0), ((IntKind.u64.wrap ((IntKind.u64.wrap (a0 + a1)))) == 0), false, decide ((wrap64 (IntKind.u64.wrap ((IntKind.u64.wrap (a0 + a1))))) ≥ 0))) else (some (IntKind.u64.wrap ((IntKind.u64.wrap (a0 + a1))), decide ((wrap64 (IntKind.u64.wrap ((IntKind.u64.wrap (a0 + a1))))) < 0), ((IntKind.u64.wrap ((IntKind.u64.wrap (a0 + a1)))) == 0), false, false))) else (some (IntKind.u64.wrap ((IntKind.u64.wrap (a0 + a1))), decide ((wrap64 (IntKind.u64.wrap ((IntKind.u64.wrap (a0 + a1))))) < 0), ((IntKind.u64.wrap ((IntKind.u64.wrap (a0 + a1)))) == 0), false, false))))))) = some (r1, r2, r3, r4, r5) := h
  clear h
  by_cases c4 : a2 = true
  · subst c4
    have H1 : (if a0 > (Go.bits .xor .u64 18446744073709551615 a1) then (if (wrap64 (a0)) ≥ 0 then (if (wrap64 (a1)) ≥ 0 then (if (wrap64 (IntKind.u64.wrap ((IntKind.u64.wrap (a0 + a1)) + 1))) < 0 then (some (IntKind.u64.wrap ((IntKind.u64.wrap (a0 + a1)) + 1), decide ((wrap64 (IntKind.u64.wrap ((IntKind.u64.wrap (a0 + a1)) + 1))) < 0), ((IntKind.u64.wrap ((IntKind.u64.wrap (a0 + a1)) + 1)) == 0), true, true)) else (if (wrap64 (a0)) < 0 then (if (wrap64 (a1)) < 0 then (some (IntKind.u64.wrap ((IntKind.u64.wrap (a0 + a1)) + 1), decide ((wrap64 (IntKind.u64.wrap ((IntKind.u64.wrap (a0 + a1)) + 1))) < 0), ((IntKind.u64.wrap ((IntKind.u64.wrap (a0 + a1)) + 1)) == 0), true, decide ((wrap64 (IntKind.u64.wrap ((IntKind.u64.wrap (a0 + a1)) + 1))) ≥ 0))) else (some (IntKind.u64.wrap ((IntKind.u64.wrap (a0 + a1)) + 1), decide ((wrap64 (IntKind.u64.wrap ((IntKind.u64.wrap (a0 + a1)) + 1))) < 0), ((IntKind.u64.wrap ((IntKind.u64.wrap (a0 + a1)) + 1)) == 0), true, false))) else (some (IntKind.u64.wrap ((IntKind.u64.wrap (a0 + a1)) + 1), decide ((wrap64 (IntKind.u64.wrap ((IntKind.u64.wrap (a0 + a1)) + 1))) < 0), ((IntKind.u64.wrap ((IntKind.u64.wrap (a0 + a1)) + 1)) == 0), true, false)))) else (if (wrap64 (a0)) < 0 then (if (wrap64 (a1)) < 0 then (some (IntKind.u64.wrap ((IntKind.u64.wrap (a0 + a1)) + 1), decide ((wrap64 (IntKind.u64.wrap ((IntKind.u64.wrap (a0 + a1)) + 1))) < 0), ((IntKind.u64.wrap ((IntKind.u64.wrap (a0 + a1)) + 1)) == 0), true, decide ((wrap64 (IntKind.u64.wrap ((IntKind.u64.wrap (a0 + a1)) + 1))) ≥ 0))) else (some (IntKind.u64.wrap ((IntKind.u64.wrap (a0 + a1)) + 1), decide ((wrap64 (IntKind.u64.wrap ((IntKind.u64.wrap (a0 + a1)) + 1))) < 0), ((IntKind.u64.wrap ((IntKind.u64.wrap (a0 + a1)) + 1)) == 0), true, false))) else (some (IntKind.u64.wrap ((IntKind.u64.wrap (a0 + a1)) + 1), decide ((wrap64 (IntKind.u64.wrap ((IntKind.u64.wrap (a0 + a1)) + 1))) < 0), ((IntKind.u64.wrap ((IntKind.u64.wrap (a0 + a1)) + 1)) == 0), true, false)))) else (if (wrap64 (a0)) < 0 then (if (wrap64 (a1)) < 0 then (some (IntKind.u64.wrap ((IntKind.u64.wrap (a0 + a1)) + 1), decide ((wrap64 (IntKind.u64.wrap ((IntKind.u64.wrap (a0 + a1)) + 1))) < 0), ((IntKind.u64.wrap ((IntKind.u64.wrap (a0 + a1)) + 1)) == 0), true, decide ((wrap64 (IntKind.u64.wrap ((IntKind.u64.wrap (a0 + a1)) + 1))) ≥ 0))) else (some (IntKind.u64.wrap ((IntKind.u64.wrap (a0 + a1)) + 1), decide ((wrap64 (IntKind.u64.wrap ((IntKind.u64.wrap (a0 + a1)) + 1))) < 0), ((IntKind.u64.wrap ((IntKind.u64.wrap (a0 + a1)) + 1)) == 0), true, false))) else (some (IntKind.u64.wrap ((IntKind.u64.wrap (a0 + a1)) + 1), decide ((wrap64 (IntKind.u64.wrap ((IntKind.u64.wrap (a0 + a1)) + 1))) < 0), ((IntKind.u64.wrap ((IntKind.u64.wrap (a0 + a1)) + 1)) == 0), true, false)))) else (if a0 = (Go.bits .xor .u64 18446744073709551615 a1) then (if (wrap64 (a0)) ≥ 0 then (if (wrap64 (a1)) ≥ 0 then (if (wrap64 (IntKind.u64.wrap ((IntKind.u64.wrap (a0 + a1)) + 1))) < 0 then (some (IntKind.u64.wrap ((IntKind.u64.wrap (a0 + a1)) + 1), decide ((wrap64 (IntKind.u64.wrap ((IntKind.u64.wrap (a0 + a1)) + 1))) < 0), ((IntKind.u64.wrap ((IntKind.u64.wrap (a0 + a1)) + 1)) == 0), true, true)) else (if (wrap64 (a0)) < 0 then (if (wrap64 (a1)) < 0 then (some (IntKind.u64.wrap ((IntKind.u64.wrap (a0 + a1)) + 1), decide ((wrap64 (IntKind.u64.wrap ((IntKind.u64.wrap (a0 + a1)) + 1))) < 0), ((IntKind.u64.wrap ((IntKind.u64.wrap (a0 + a1)) + 1)) == 0), true, decide ((wrap64 (IntKind.u64.wrap ((IntKind.u64.wrap (a0 + a1)) + 1))) ≥ 0))) else (some (IntKind.u64.wrap ((IntKind.u64.wrap (a0 + a1)) + 1), decide ((wrap64 (IntKind.u64.wrap ((IntKind.u64.wrap (a0 + a1)) + 1))) < 0), ((IntKind.u64.wrap ((IntKind.u64.wrap (a0 + a1)) + 1)) == 0), true, false))) else (some (IntKind.u64.wrap ((IntKind.u64.wrap (a0 + a1)) + 1), decide ((wrap64 (IntKind.u64.wrap ((IntKind.u64.wrap (a0 + a1)) + 1))) < 0), ((IntKind.u64.wrap ((IntKind.u64.wrap (a0 + a1)) + 1)) == 0), true, false)))) else (if (wrap64 (a0)) < 0 then (if (wrap64 (a1)) < 0 then (some (IntKind.u64.wrap ((IntKind.u64.wrap (a0 + a1)) + 1), decide ((wrap64 (IntKind.u64.wrap ((IntKind.u64.wrap (a0 + a1)) + 1))) < 0), ((IntKind.u64.wrap ((IntKind.u64.wrap (a0 + a1)) + 1)) == 0), true, decide ((wrap64 (IntKind.u64.wrap ((IntKind.u64.wrap (a0 + a1)) + 1))) ≥ 0))) else (some (IntKind.u64.wrap ((IntKind.u64.wrap (a0 + a1)) + 1), decide ((wrap64 (IntKind.u64.wrap ((IntKind.u64.wrap (a0 + a1)) + 1))) < 0), ((IntKind.u64.wrap ((IntKind.u64.wrap (a0 + a1)) + 1)) == 0), true, false))) else (some (IntKind.u64.wrap ((IntKind.u64.wrap (a0 + a1)) + 1), decide ((wrap64 (IntKind.u64.wrap ((IntKind.u64.wrap (a0 + a1)) + 1))) < 0), ((IntKind.u64.wrap ((IntKind.u64.wrap (a0 + a1)) + 1)) == 0), true, false)))) else (if (wrap64 (a0)) < 0 then (if (wrap64 (a1)) < 0 then (some (IntKind.u64.wrap ((IntKind.u64.wrap (a0 + a1)) + 1), decide ((wrap64 (IntKind.u64.wrap ((IntKind.u64.wrap (a0 + a1)) + 1))) < 0), ((IntKind.u64.wrap ((IntKind.u64.wrap (a0 + a1)) + 1)) == 0), true, decide ((wrap64 (IntKind.u64.wrap ((IntKind.u64.wrap (a0 + a1)) + 1))) ≥ 0))) else (some (IntKind.u64.wrap ((IntKind.u64.wrap (a0 + a1)) + 1), decide ((wrap64 (IntKind.u64.wrap ((IntKind.u64.wrap (a0 + a1)) + 1))) < 0), ((IntKind.u64.wrap ((IntKind.u64.wrap (a0 + a1)) + 1)) == 0), true, false))) else (some (IntKind.u64.wrap ((IntKind.u64.wrap (a0 + a1)) + 1), decide ((wrap64 (IntKind.u64.wrap ((IntKind.u64.wrap (a0 + a1)) + 1))) < 0), ((IntKind.u64.wrap ((IntKind.u64.wrap (a0 + a1)) + 1)) == 0), true, false)))) else (if (wrap64 (a0)) ≥ 0 then (if (wrap64 (a1)) ≥ 0 then (if (wrap64 (IntKind.u64.wrap ((IntKind.u64.wrap (a0 + a1)) + 1))) < 0 then (some (IntKind.u64.wrap ((IntKind.u64.wrap (a0 + a1)) + 1), decide ((wrap64 (IntKind.u64.wrap ((IntKind.u64.wrap (a0 + a1)) + 1))) < 0), ((IntKind.u64.wrap ((IntKind.u64.wrap (a0 + a1)) + 1)) == 0), false, true)) else (if (wrap64 (a0)) < 0 then (if (wrap64 (a1)) < 0 then (some (IntKind.u64.wrap ((IntKind.u64.wrap (a0 + a1)) + 1), decide ((wrap64 (IntKind.u64.wrap ((IntKind.u64.wrap (a0 + a1)) + 1))) < 0), ((IntKind.u64.wrap ((IntKind.u64.wrap (a0 + a1)) + 1)) == 0), false, decide ((wrap64 (IntKind.u64.wrap ((IntKind.u64.wrap (a0 + a1)) + 1))) ≥ 0))) else (some (IntKind.u64.wrap ((IntKind.u64.wrap (a0 + a1)) + 1), decide ((wrap64 (IntKind.u64.wrap ((IntKind.u64.wrap (a0 + a1)) + 1))) < 0), ((IntKind.u64.wrap ((IntKind.u64.wrap (a0 + a1)) + 1)) == 0), false, false))) else (some (IntKind.u64.wrap ((IntKind.u64.wrap (a0 + a1)) + 1), decide ((wrap64 (IntKind.u64.wrap ((IntKind.u64.wrap (a0 + a1)) + 1))) < 0), ((IntKind.u64.wrap ((IntKind.u64.wrap (a0 + a1)) + 1)) == 0), false, false)))) else (if (wrap64 (a0)) < 0 then (if (wrap64 (a1)) < 0 then (some (IntKind.u64.wrap ((IntKind.u64.wrap (a0 + a1)) + 1), decide ((wrap64 (IntKind.u64.wrap ((IntKind.u64.wrap (a0 + a1)) + 1))) < 0), ((IntKind.u64.wrap ((IntKind.u64.wrap (a0 + a1)) + 1)) == 0), false, decide ((wrap64 (IntKind.u64.wrap ((IntKind.u64.wrap (a0 + a1)) + 1))) ≥ 0))) else (some (IntKind.u64.wrap ((IntKind.u64.wrap (a0 + a1)) + 1), decide ((wrap64 (IntKind.u64.wrap ((IntKind.u64.wrap (a0 + a1)) + 1))) < 0), ((IntKind.u64.wrap ((IntKind.u64.wrap (a0 + a1)) + 1)) == 0), false, false))) else (some (IntKind.u64.wrap ((IntKind.u64.wrap (a0 + a1)) + 1), decide ((wrap64 (IntKind.u64.wrap ((IntKind.u64.wrap (a0 + a1)) + 1))) < 0), ((IntKind.u64.wrap ((IntKind.u64.wrap (a0 + a1)) + 1)) == 0), false, false)))) else (if (wrap64 (a0)) < 0 then (if (wrap64 (a1)) < 0 then (some (IntKind.u64.wrap ((IntKind.u64.wrap (a0 + a1)) + 1), decide ((wrap64 (IntKind.u64.wrap ((IntKind.u64.wrap (a0 + a1)) + 1))) < 0), ((IntKind.u64.wrap ((IntKind.u64.wrap (a0 + a1)) + 1)) == 0), false, decide ((wrap64 (IntKind.u64.wrap ((IntKind.u64.wrap (a0 + a1)) + 1))) ≥ 0))) else (some (IntKind.u64.wrap ((IntKind.u64.wrap (a0 + a1)) + 1), decide ((wrap64 (IntKind.u64.wrap ((IntKind.u64.wrap (a0 + a1)) + 1))) < 0), ((IntKind.u64.wrap ((IntKind.u64.wrap (a0 + a1)) + 1)) == 0), false, false))) else (some (IntKind.u64.wrap ((IntKind.u64.wrap (a0 + a1)) + 1), decide ((wrap64 (IntKind.u64.wrap ((IntKind.u64.wrap (a0 + a1)) + 1))) < 0), ((IntKind.u64.wrap ((IntKind.u64.wrap (a0 + a1)) + 1)) == 0), false, false)))))) = some (r1, r2, r3, r4, r5) := by rw [if_pos rfl] at H; exact H
    clear H
    have H := H1
    clear H1
    by_cases c5 : a0 > (Go.bits .xor .u64 18446744073709551615 a1)
    · rw [if_pos c5] at H
      have c5b0 : decide ((Go.bits .xor .u64 18446744073709551615 a1) < a0) = true := decide_eq_true c5
      clear c5
      by_cases c6 : (wrap64 (a0)) ≥ 0
      · rw [if_pos c6] at H
        have c6b0 : decide (0 ≤ (wrap64 (a0))) = true := decide_eq_true c6
        clear c6
        by_cases c7 : (wrap64 (a1)) ≥ 0
        · rw [if_pos c7] at H
          have c7b0 : decide (0 ≤ (wrap64 (a1))) = true := decide_eq_true c7
          clear c7
          by_cases c8 : (wrap64 (IntKind.u64.wrap ((IntKind.u64.wrap (a0 + a1)) + 1))) < 0
          · rw [if_pos c8] at H
            have c8b0 : decide ((wrap64 (IntKind.u64.wrap ((IntKind.u64.wrap (a0 + a1)) + 1))) < 0) = true := decide_eq_true c8
            clear c8
            simp only [Option.some.injEq, Prod.mk.injEq] at H
            obtain ⟨rfl, rfl, rfl, rfl, rfl⟩ := H
            go_enter Tryd.func10, Tryd.ntmps10
            go_wp2
            refine bodyPost_ret (results_list (rs := [.tmp 6, .tmp 7, .tmp 8, .tmp 9, .tmp 10]) rfl (by simp) (.tmp (.tmp (.tmp (.tmp (.tmp .nil)))))) rfl ?_
            exact ⟨by first | rfl | (simp; done) | (simp [*]; done), by repeat (first | exact Drawn0.refl _ | apply Drawn0.step)⟩
          · rw [if_neg c8] at H
            have c8b0 : decide ((wrap64 (IntKind.u64.wrap ((IntKind.u64.wrap (a0 + a1)) + 1))) < 0) = false := decide_eq_false c8
            clear c8
            by_cases c9 : (wrap64 (a0)) < 0
            · rw [if_pos c9] at H
              have c9b0 : decide ((wrap64 (a0)) < 0) = true := decide_eq_true c9
              clear c9
              by_cases c10 : (wrap64 (a1)) < 0
              · rw [if_pos c10] at H
                have c10b0 : decide ((wrap64 (a1)) < 0) = true := decide_eq_true c10
                clear c10
                simp only [Option.some.injEq, Prod.mk.injEq] at H
                obtain ⟨rfl, rfl, rfl, rfl, rfl⟩ := H
                go_enter Tryd.func10, Tryd.ntmps10
                go_wp2
                refine bodyPost_ret (results_list (rs := [.tmp 6, .tmp 7, .tmp 8, .tmp 9, .tmp 10]) rfl (by simp) (.tmp (.tmp (.tmp (.tmp (.tmp .nil)))))) rfl ?_
                exact ⟨by first | rfl | (simp; done) | (simp [*]; done), by repeat (first | exact Drawn0.refl _ | apply Drawn0.step)⟩
              · rw [if_neg c10] at H
                have c10b0 : decide ((wrap64 (a1)) < 0) = false := decide_eq_false c10
                clear c10
                simp only [Option.some.injEq, Prod.mk.injEq] at H
                obtain ⟨rfl, rfl, rfl, rfl, rfl⟩ := H
                go_enter Tryd.func10, Tryd.ntmps10
                go_wp2
                refine bodyPost_ret (results_list (rs := [.tmp 6, .tmp 7, .tmp 8, .tmp 9, .tmp 10]) rfl (by simp) (.tmp (.tmp (.tmp (.tmp (.tmp .nil)))))) rfl ?_
                exact ⟨by first | rfl | (simp; done) | (simp [*]; done), by repeat (first | exact Drawn0.refl _ | apply Drawn0.step)⟩
            · rw [if_neg c9] at H
              have c9b0 : decide ((wrap64 (a0)) < 0) = false := decide_eq_false c9
              clear c9
              simp only [Option.some.injEq, Prod.mk.injEq] at H
              obtain ⟨rfl, rfl, rfl, rfl, rfl⟩ := H
              go_enter Tryd.func10, Tryd.ntmps10
              go_wp2
              refine bodyPost_ret (results_list (rs := [.tmp 6, .tmp 7, .tmp 8, .tmp 9, .tmp 10]) rfl (by simp) (.tmp (.tmp (.tmp (.tmp (.tmp .nil)))))) rfl ?_
              exact ⟨by first | rfl | (simp; done) | (simp [*]; done), by repeat (first | exact Drawn0.refl _ | apply Drawn0.step)⟩
        · rw [if_neg c7] at H
          have c7b0 : decide (0 ≤ (wrap64 (a1))) = false := decide_eq_false c7
          clear c7
          by_cases c11 : (wrap64 (a0)) < 0
          · rw [if_pos c11] at H
            have c11b0 : decide ((wrap64 (a0)) < 0) = true := decide_eq_true c11
            clear c11
            by_cases c12 : (wrap64 (a1)) < 0
            · rw [if_pos c12] at H
              have c12b0 : decide ((wrap64 (a1)) < 0) = true := decide_eq_true c12
              clear c12
              simp only [Option.some.injEq, Prod.mk.injEq] at H
              obtain ⟨rfl, rfl, rfl, rfl, rfl⟩ := H
              go_enter Tryd.func10, Tryd.ntmps10
              go_wp2
              refine bodyPost_ret (results_list (rs := [.tmp 6, .tmp 7, .tmp 8, .tmp 9, .tmp 10]) rfl (by simp) (.tmp (.tmp (.tmp (.tmp (.tmp .nil)))))) rfl ?_
              exact ⟨by first | rfl | (simp; done) | (simp [*]; done), by repeat (first | exact Drawn0.refl _ | apply Drawn0.step)⟩
            · rw [if_neg c12] at H
              have c12b0 : decide ((wrap64 (a1)) < 0) = false := decide_eq_false c12
              clear c12
              simp only [Option.some.injEq, Prod.mk.injEq] at H
              obtain ⟨rfl, rfl, rfl, rfl, rfl⟩ := H
              go_enter Tryd.func10, Tryd.ntmps10
              go_wp2
              refine bodyPost_ret (results_list (rs := [.tmp 6, .tmp 7, .tmp 8, .tmp 9, .tmp 10]) rfl (by simp) (.tmp (.tmp (.tmp (.tmp (.tmp .nil)))))) rfl ?_
              exact ⟨by first | rfl | (simp; done) | (simp [*]; done), by repeat (first | exact Drawn0.refl _ | apply Drawn0.step)⟩
          · rw [if_neg c11] at H
            have c11b0 : decide ((wrap64 (a0)) < 0) = false := decide_eq_false c11
            clear c11
            simp only [Option.some.injEq, Prod.mk.injEq] at H
            obtain ⟨rfl, rfl, rfl, rfl, rfl⟩ := H
            go_enter Tryd.func10, Tryd.ntmps10
            go_wp2
            refine bodyPost_ret (results_list (rs := [.tmp 6, .tmp 7, .tmp 8, .tmp 9, .tmp 10]) rfl (by simp) (.tmp (.tmp (.tmp (.tmp (.tmp .nil)))))) rfl ?_
            exact ⟨by first | rfl | (simp; done) | (simp [*]; done), by repeat (first | exact Drawn0.refl _ | apply Drawn0.step)⟩
      · rw [if_neg c6] at H
        have c6b0 : decide (0 ≤ (wrap64 (a0))) = false := decide_eq_false c6
        clear c6
        by_cases c13 : (wrap64 (a0)) < 0
        · rw [if_pos c13] at H
          have c13b0 : decide ((wrap64 (a0)) < 0) = true := decide_eq_true c13
          clear c13
          by_cases c14 : (wrap64 (a1)) < 0
          · rw [if_pos c14] at H
            have c14b0 : decide ((wrap64 (a1)) < 0) = true := decide_eq_true c14
            clear c14
            simp only [Option.some.injEq, Prod.mk.injEq] at H
            obtain ⟨rfl, rfl, rfl, rfl, rfl⟩ := H
            go_enter Tryd.func10, Tryd.ntmps10
            go_wp2
            refine bodyPost_ret (results_list (rs := [.tmp 6, .tmp 7, .tmp 8, .tmp 9, .tmp 10]) rfl (by simp) (.tmp (.tmp (.tmp (.tmp (.tmp .nil)))))) rfl ?_
            exact ⟨by first | rfl | (simp; done) | (simp [*]; done), by repeat (first | exact Drawn0.refl _ | apply Drawn0.step)⟩
          · rw [if_neg c14] at H
            have c14b0 : decide ((wrap64 (a1)) < 0) = false := decide_eq_false c14
            clear c14
            simp only [Option.some.injEq, Prod.mk.injEq] at H
            obtain ⟨rfl, rfl, rfl, rfl, rfl⟩ := H
            go_enter Tryd.func10, Tryd.ntmps10
            go_wp2
            refine bodyPost_ret (results_list (rs := [.tmp 6, .tmp 7, .tmp 8, .tmp 9, .tmp 10]) rfl (by simp) (.tmp (.tmp (.tmp (.tmp (.tmp .nil)))))) rfl ?_
            exact ⟨by first | rfl | (simp; done) | (simp [*]; done), by repeat (first | exact Drawn0.refl _ | apply Drawn0.step)⟩
        · rw [if_neg c13] at H
          have c13b0 : decide ((wrap64 (a0)) < 0) = false := decide_eq_false c13
          clear c13
          simp only [Option.some.injEq, Prod.mk.injEq] at H
          obtain ⟨rfl, rfl, rfl, rfl, rfl⟩ := H
          go_enter Tryd.func10, Tryd.ntmps10
          go_wp2
          refine bodyPost_ret (results_list (rs := [.tmp 6, .tmp 7, .tmp 8, .tmp 9, .tmp 10]) rfl (by simp) (.tmp (.tmp (.tmp (.tmp (.tmp .nil)))))) rfl ?_
          exact ⟨by first | rfl | (simp; done) | (simp [*]; done), by repeat (first | exact Drawn0.refl _ | apply Drawn0.step)⟩
    · rw [if_neg c5] at H
      have c5b0 : decide ((Go.bits .xor .u64 18446744073709551615 a1) < a0) = false := decide_eq_false c5
      clear c5
      by_cases c15 : a0 = (Go.bits .xor .u64 18446744073709551615 a1)
      · rw [if_pos c15] at H
        have c15b0 : (a0 == (Go.bits .xor .u64 18446744073709551615 a1)) = true := beq_iff_eq.mpr c15
        have c15b1 : (a0 != (Go.bits .xor .u64 18446744073709551615 a1)) = false := bne_eq_false_iff_eq.mpr c15
        clear c15
        by_cases c16 : (wrap64 (a0)) ≥ 0
        · rw [if_pos c16] at H
          have c16b0 : decide (0 ≤ (wrap64 (a0))) = true := decide_eq_true c16
          clear c16
          by_cases c17 : (wrap64 (a1)) ≥ 0
          · rw [if_pos c17] at H
            have c17b0 : decide (0 ≤ (wrap64 (a1))) = true := decide_eq_true c17
            clear c17
            by_cases c18 : (wrap64 (IntKind.u64.wrap ((IntKind.u64.wrap (a0 + a1)) + 1))) < 0
            · rw [if_pos c18] at H
              have c18b0 : decide ((wrap64 (IntKind.u64.wrap ((IntKind.u64.wrap (a0 + a1)) + 1))) < 0) = true := decide_eq_true c18
              clear c18
              simp only [Option.some.injEq, Prod.mk.injEq] at H
              obtain ⟨rfl, rfl, rfl, rfl, rfl⟩ := H
              go_enter Tryd.func10, Tryd.ntmps10
              go_wp2
              refine bodyPost_ret (results_list (rs := [.tmp 6, .tmp 7, .tmp 8, .tmp 9, .tmp 10]) rfl (by simp) (.tmp (.tmp (.tmp (.tmp (.tmp .nil)))))) rfl ?_
              exact ⟨by first | rfl | (simp; done) | (simp [*]; done), by repeat (first | exact Drawn0.refl _ | apply Drawn0.step)⟩
            · rw [if_neg c18] at H
              have c18b0 : decide ((wrap64 (IntKind.u64.wrap ((IntKind.u64.wrap (a0 + a1)) + 1))) < 0) = false := decide_eq_false c18
              clear c18
              by_cases c19 : (wrap64 (a0)) < 0
              · rw [if_pos c19] at H
                have c19b0 : decide ((wrap64 (a0)) < 0) = true := decide_eq_true c19
                clear c19
                by_cases c20 : (wrap64 (a1)) < 0
                · rw [if_pos c20] at H
                  have c20b0 : decide ((wrap64 (a1)) < 0) = true := decide_eq_true c20
                  clear c20
                  simp only [Option.some.injEq, Prod.mk.injEq] at H
                  obtain ⟨rfl, rfl, rfl, rfl, rfl⟩ := H
                  go_enter Tryd.func10, Tryd.ntmps10
                  go_wp2
                  refine bodyPost_ret (results_list (rs := [.tmp 6, .tmp 7, .tmp 8, .tmp 9, .tmp 10]) rfl (by simp) (.tmp (.tmp (.tmp (.tmp (.tmp .nil)))))) rfl ?_
                  exact ⟨by first | rfl | (simp; done) | (simp [*]; done), by repeat (first | exact Drawn0.refl _ | apply Drawn0.step)⟩
                · rw [if_neg c20] at H
                  have c20b0 : decide ((wrap64 (a1)) < 0) = false := decide_eq_false c20
                  clear c20
                  simp only [Option.some.injEq, Prod.mk.injEq] at H
                  obtain ⟨rfl, rfl, rfl, rfl, rfl⟩ := H
                  go_enter Tryd.func10, Tryd.ntmps10
                  go_wp2
                  refine bodyPost_ret (results_list (rs := [.tmp 6, .tmp 7, .tmp 8, .tmp 9, .tmp 10]) rfl (by simp) (.tmp (.tmp (.tmp (.tmp (.tmp .nil)))))) rfl ?_
                  exact ⟨by first | rfl | (simp; done) | (simp [*]; done), by repeat (first | exact Drawn0.refl _ | apply Drawn0.step)⟩
              · rw [if_neg c19] at H
                have c19b0 : decide ((wrap64 (a0)) < 0) = false := decide_eq_false c19
                clear c19
                simp only [Option.some.injEq, Prod.mk.injEq] at H
                obtain ⟨rfl, rfl, rfl, rfl, rfl⟩ := H
                go_enter Tryd.func10, Tryd.ntmps10
                go_wp2
                refine bodyPost_ret (results_list (rs := [.tmp 6, .tmp 7, .tmp 8, .tmp 9, .tmp 10]) rfl (by simp) (.tmp (.tmp (.tmp (.tmp (.tmp .nil)))))) rfl ?_
                exact ⟨by first | rfl | (simp; done) | (simp [*]; done), by repeat (first | exact Drawn0.refl _ | apply Drawn0.step)⟩
          · rw [if_neg c17] at H
            have c17b0 : decide (0 ≤ (wrap64 (a1))) = false := decide_eq_false c17
            clear c17
            by_cases c21 : (wrap64 (a0)) < 0
            · rw [if_pos c21] at H
              have c21b0 : decide ((wrap64 (a0)) < 0) = true := decide_eq_true c21
              clear c21
              by_cases c22 : (wrap64 (a1)) < 0
              · rw [if_pos c22] at H
                have c22b0 : decide ((wrap64 (a1)) < 0) = true := decide_eq_true c22
                clear c22
                simp only [Option.some.injEq, Prod.mk.injEq] at H
                obtain ⟨rfl, rfl, rfl, rfl, rfl⟩ := H
                go_enter Tryd.func10, Tryd.ntmps10
                go_wp2
                refine bodyPost_ret (results_list (rs := [.tmp 6, .tmp 7, .tmp 8, .tmp 9, .tmp 10]) rfl (by simp) (.tmp (.tmp (.tmp (.tmp (.tmp .nil)))))) rfl ?_
                exact ⟨by first | rfl | (simp; done) | (simp [*]; done), by repeat (first | exact Drawn0.refl _ | apply Drawn0.step)⟩
              · rw [if_neg c22] at H
                have c22b0 : decide ((wrap64 (a1)) < 0) = false := decide_eq_false c22
                clear c22
                simp only [Option.some.injEq, Prod.mk.injEq] at H
                obtain ⟨rfl, rfl, rfl, rfl, rfl⟩ := H
                go_enter Tryd.func10, Tryd.ntmps10
                go_wp2
                refine bodyPost_ret (results_list (rs := [.tmp 6, .tmp 7, .tmp 8, .tmp 9, .tmp 10]) rfl (by simp) (.tmp (.tmp (.tmp (.tmp (.tmp .nil)))))) rfl ?_
                exact ⟨by first | rfl | (simp; done) | (simp [*]; done), by repeat (first | exact Drawn0.refl _ | apply Drawn0.step)⟩
            · rw [if_neg c21] at H
              have c21b0 : decide ((wrap64 (a0)) < 0) = false := decide_eq_false c21
              clear c21
              simp only [Option.some.injEq, Prod.mk.injEq] at H
              obtain ⟨rfl, rfl, rfl, rfl, rfl⟩ := H
              go_enter Tryd.func10, Tryd.ntmps10
              go_wp2
              refine bodyPost_ret (results_list (rs := [.tmp 6, .tmp 7, .tmp 8, .tmp 9, .tmp 10]) rfl (by simp) (.tmp (.tmp (.tmp (.tmp (.tmp .nil)))))) rfl ?_
              exact ⟨by first | rfl | (simp; done) | (simp [*]; done), by repeat (first | exact Drawn0.refl _ | apply Drawn0.step)⟩
        · rw [if_neg c16] at H
          have c16b0 : decide (0 ≤ (wrap64 (a0))) = false := decide_eq_false c16
          clear c16
          by_cases c23 : (wrap64 (a0)) < 0
          · rw [if_pos c23] at H
            have c23b0 : decide ((wrap64 (a0)) < 0) = true := decide_eq_true c23
            clear c23
            by_cases c24 : (wrap64 (a1)) < 0
            · rw [if_pos c24] at H
              have c24b0 : decide ((wrap64 (a1)) < 0) = true := decide_eq_true c24
              clear c24
              simp only [Option.some.injEq, Prod.mk.injEq] at H
              obtain ⟨rfl, rfl, rfl, rfl, rfl⟩ := H
              go_enter Tryd.func10, Tryd.ntmps10
              go_wp2
              refine bodyPost_ret (results_list (rs := [.tmp 6, .tmp 7, .tmp 8, .tmp 9, .tmp 10]) rfl (by simp) (.tmp (.tmp (.tmp (.tmp (.tmp .nil)))))) rfl ?_
              exact ⟨by first | rfl | (simp; done) | (simp [*]; done), by repeat (first | exact Drawn0.refl _ | apply Drawn0.step)⟩
            · rw [if_neg c24] at H
              have c24b0 : decide ((wrap64 (a1)) < 0) = false := decide_eq_false c24
              clear c24
              simp only [Option.some.injEq, Prod.mk.injEq] at H
              obtain ⟨rfl, rfl, rfl, rfl, rfl⟩ := H
              go_enter Tryd.func10, Tryd.ntmps10
              go_wp2
              refine bodyPost_ret (results_list (rs := [.tmp 6, .tmp 7, .tmp 8, .tmp 9, .tmp 10]) rfl (by simp) (.tmp (.tmp (.tmp (.tmp (.tmp .nil)))))) rfl ?_
              exact ⟨by first | rfl | (simp; done) | (simp [*]; done), by repeat (first | exact Drawn0.refl _ | apply Drawn0.step)⟩
          · rw [if_neg c23] at H
            have c23b0 : decide ((wrap64 (a0)) < 0) = false := decide_eq_false c23
            clear c23
            simp only [Option.some.injEq, Prod.mk.injEq] at H
            obtain ⟨rfl, rfl, rfl, rfl, rfl⟩ := H
            go_enter Tryd.func10, Tryd.ntmps10
            go_wp2
            refine bodyPost_ret (results_list (rs := [.tmp 6, .tmp 7, .tmp 8, .tmp 9, .tmp 10]) rfl (by simp) (.tmp (.tmp (.tmp (.tmp (.tmp .nil)))))) rfl ?_
            exact ⟨by first | rfl | (simp; done) | (simp [*]; done), by repeat (first | exact Drawn0.refl _ | apply Drawn0.step)⟩
      · rw [if_neg c15] at H
        have c15b0 : (a0 == (Go.bits .xor .u64 18446744073709551615 a1)) = false := beq_eq_false_iff_ne.mpr c15
        have c15b1 : (a0 != (Go.bits .xor .u64 18446744073709551615 a1)) = true := bne_iff_ne.mpr c15
        by_cases c25 : (wrap64 (a0)) ≥ 0
        · rw [if_pos c25] at H
          have c25b0 : decide (0 ≤ (wrap64 (a0))) = true := decide_eq_true c25
          clear c25
          by_cases c26 : (wrap64 (a1)) ≥ 0
          · rw [if_pos c26] at H
            have c26b0 : decide (0 ≤ (wrap64 (a1))) = true := decide_eq_true c26
            clear c26
            by_cases c27 : (wrap64 (IntKind.u64.wrap ((IntKind.u64.wrap (a0 + a1)) + 1))) < 0
            · rw [if_pos c27] at H
              have c27b0 : decide ((wrap64 (IntKind.u64.wrap ((IntKind.u64.wrap (a0 + a1)) + 1))) < 0) = true := decide_eq_true c27
              clear c27
              simp only [Option.some.injEq, Prod.mk.injEq] at H
              obtain ⟨rfl, rfl, rfl, rfl, rfl⟩ := H
              go_enter Tryd.func10, Tryd.ntmps10
              go_wp2
              refine bodyPost_ret (results_list (rs := [.tmp 6, .tmp 7, .tmp 8, .tmp 9, .tmp 10]) rfl (by simp) (.tmp (.tmp (.tmp (.tmp (.tmp .nil)))))) rfl ?_
              exact ⟨by first | rfl | (simp; done) | (simp [*]; done), by repeat (first | exact Drawn0.refl _ | apply Drawn0.step)⟩
            · rw [if_neg c27] at H
              have c27b0 : decide ((wrap64 (IntKind.u64.wrap ((IntKind.u64.wrap (a0 + a1)) + 1))) < 0) = false := decide_eq_false c27
              clear c27
              by_cases c28 : (wrap64 (a0)) < 0
              · rw [if_pos c28] at H
                have c28b0 : decide ((wrap64 (a0)) < 0) = true := decide_eq_true c28
                clear c28
                by_cases c29 : (wrap64 (a1)) < 0
                · rw [if_pos c29] at H
                  have c29b0 : decide ((wrap64 (a1)) < 0) = true := decide_eq_true c29
                  clear c29
                  simp only [Option.some.injEq, Prod.mk.injEq] at H
                  obtain ⟨rfl, rfl, rfl, rfl, rfl⟩ := H
                  go_enter Tryd.func10, Tryd.ntmps10
                  go_wp2
                  refine bodyPost_ret (results_list (rs := [.tmp 6, .tmp 7, .tmp 8, .tmp 9, .tmp 10]) rfl (by simp) (.tmp (.tmp (.tmp (.tmp (.tmp .nil)))))) rfl ?_
                  exact ⟨by first | rfl | (simp; done) | (simp [*]; done), by repeat (first | exact Drawn0.refl _ | apply Drawn0.step)⟩
                · rw [if_neg c29] at H
                  have c29b0 : decide ((wrap64 (a1)) < 0) = false := decide_eq_false c29
                  clear c29
                  simp only [Option.some.injEq, Prod.mk.injEq] at H
                  obtain ⟨rfl, rfl, rfl, rfl, rfl⟩ := H
                  go_enter Tryd.func10, Tryd.ntmps10
                  go_wp2
                  refine bodyPost_ret (results_list (rs := [.tmp 6, .tmp 7, .tmp 8, .tmp 9, .tmp 10]) rfl (by simp) (.tmp (.tmp (.tmp (.tmp (.tmp .nil)))))) rfl ?_
                  exact ⟨by first | rfl | (simp; done) | (simp [*]; done), by repeat (first | exact Drawn0.refl _ | apply Drawn0.step)⟩
              · rw [if_neg c28] at H
                have c28b0 : decide ((wrap64 (a0)) < 0) = false := decide_eq_false c28
                clear c28
                simp only [Option.some.injEq, Prod.mk.injEq] at H
                obtain ⟨rfl, rfl, rfl, rfl, rfl⟩ := H
                go_enter Tryd.func10, Tryd.ntmps10
                go_wp2
                refine bodyPost_ret (results_list (rs := [.tmp 6, .tmp 7, .tmp 8, .tmp 9, .tmp 10]) rfl (by simp) (.tmp (.tmp (.tmp (.tmp (.tmp .nil)))))) rfl ?_
                exact ⟨by first | rfl | (simp; done) | (simp [*]; done), by repeat (first | exact Drawn0.refl _ | apply Drawn0.step)⟩
          · rw [if_neg c26] at H
            have c26b0 : decide (0 ≤ (wrap64 (a1))) = false := decide_eq_false c26
            clear c26
            by_cases c30 : (wrap64 (a0)) < 0
            · rw [if_pos c30] at H
              have c30b0 : decide ((wrap64 (a0)) < 0) = true := decide_eq_true c30
              clear c30
              by_cases c31 : (wrap64 (a1)) < 0
              · rw [if_pos c31] at H
                have c31b0 : decide ((wrap64 (a1)) < 0) = true := decide_eq_true c31
                clear c31
                simp only [Option.some.injEq, Prod.mk.injEq] at H
                obtain ⟨rfl, rfl, rfl, rfl, rfl⟩ := H
                go_enter Tryd.func10, Tryd.ntmps10
                go_wp2
                refine bodyPost_ret (results_list (rs := [.tmp 6, .tmp 7, .tmp 8, .tmp 9, .tmp 10]) rfl (by simp) (.tmp (.tmp (.tmp (.tmp (.tmp .nil)))))) rfl ?_
                exact ⟨by first | rfl | (simp; done) | (simp [*]; done), by repeat (first | exact Drawn0.refl _ | apply Drawn0.step)⟩
              · rw [if_neg c31] at H
                have c31b0 : decide ((wrap64 (a1)) < 0) = false := decide_eq_false c31
                clear c31
                simp only [Option.some.injEq, Prod.mk.injEq] at H
                obtain ⟨rfl, rfl, rfl, rfl, rfl⟩ := H
                go_enter Tryd.func10, Tryd.ntmps10
                go_wp2
                refine bodyPost_ret (results_list (rs := [.tmp 6, .tmp 7, .tmp 8, .tmp 9, .tmp 10]) rfl (by simp) (.tmp (.tmp (.tmp (.tmp (.tmp .nil)))))) rfl ?_
                exact ⟨by first | rfl | (simp; done) | (simp [*]; done), by repeat (first | exact Drawn0.refl _ | apply Drawn0.step)⟩
            · rw [if_neg c30] at H
              have c30b0 : decide ((wrap64 (a0)) < 0) = false := decide_eq_false c30
              clear c30
              simp only [Option.some.injEq, Prod.mk.injEq] at H
              obtain ⟨rfl, rfl, rfl, rfl, rfl⟩ := H
              go_enter Tryd.func10, Tryd.ntmps10
              go_wp2
              refine bodyPost_ret (results_list (rs := [.tmp 6, .tmp 7, .tmp 8, .tmp 9, .tmp 10]) rfl (by simp) (.tmp (.tmp (.tmp (.tmp (.tmp .nil)))))) rfl ?_
              exact ⟨by first | rfl | (simp; done) | (simp [*]; done), by repeat (first | exact Drawn0.refl _ | apply Drawn0.step)⟩
        · rw [if_neg c25] at H
          have c25b0 : decide (0 ≤ (wrap64 (a0))) = false := decide_eq_false c25
          clear c25
          by_cases c32 : (wrap64 (a0)) < 0
          · rw [if_pos c32] at H
            have c32b0 : decide ((wrap64 (a0)) < 0) = true := decide_eq_true c32
            clear c32
            by_cases c33 : (wrap64 (a1)) < 0
            · rw [if_pos c33] at H
              have c33b0 : decide ((wrap64 (a1)) < 0) = true := decide_eq_true c33
              clear c33
              simp only [Option.some.injEq, Prod.mk.injEq] at H
              obtain ⟨rfl, rfl, rfl, rfl, rfl⟩ := H
              go_enter Tryd.func10, Tryd.ntmps10
              go_wp2
              refine bodyPost_ret (results_list (rs := [.tmp 6, .tmp 7, .tmp 8, .tmp 9, .tmp 10]) rfl (by simp) (.tmp (.tmp (.tmp (.tmp (.tmp .nil)))))) rfl ?_
              exact ⟨by first | rfl | (simp; done) | (simp [*]; done), by repeat (first | exact Drawn0.refl _ | apply Drawn0.step)⟩
            · rw [if_neg c33] at H
              have c33b0 : decide ((wrap64 (a1)) < 0) = false := decide_eq_false c33
              clear c33
              simp only [Option.some.injEq, Prod.mk.injEq] at H
              obtain ⟨rfl, rfl, rfl, rfl, rfl⟩ := H
              go_enter Tryd.func10, Tryd.ntmps10
              go_wp2
              refine bodyPost_ret (results_list (rs := [.tmp 6, .tmp 7, .tmp 8, .tmp 9, .tmp 10]) rfl (by simp) (.tmp (.tmp (.tmp (.tmp (.tmp .nil)))))) rfl ?_
              exact ⟨by first | rfl | (simp; done) | (simp [*]; done), by repeat (first | exact Drawn0.refl _ | apply Drawn0.step)⟩
          · rw [if_neg c32] at H
            have c32b0 : decide ((wrap64 (a0)) < 0) = false := decide_eq_false c32
            clear c32
            simp only [Option.some.injEq, Prod.mk.injEq] at H
            obtain ⟨rfl, rfl, rfl, rfl, rfl⟩ := H
            go_enter Tryd.func10, Tryd.ntmps10
            go_wp2
            refine bodyPost_ret (results_list (rs := [.tmp 6, .tmp 7, .tmp 8, .tmp 9, .tmp 10]) rfl (by simp) (.tmp (.tmp (.tmp (.tmp (.tmp .nil)))))) rfl ?_
            exact ⟨by first | rfl | (simp; done) | (simp [*]; done), by repeat (first | exact Drawn0.refl _ | apply Drawn0.step)⟩
  · replace c4 := Bool.eq_false_iff.mpr c4
    subst c4
    have H1 : (if a0 > (Go.bits .xor .u64 18446744073709551615 a1) then (if (wrap64 (a0)) ≥ 0 then (if (wrap64 (a1)) ≥ 0 then (if (wrap64 (IntKind.u64.wrap ((IntKind.u64.wrap (a0 + a1))))) < 0 then (some (IntKind.u64.wrap ((IntKind.u64.wrap (a0 + a1))), decide ((wrap64 (IntKind.u64.wrap ((IntKind.u64.wrap (a0 + a1))))) < 0), ((IntKind.u64.wrap ((IntKind.u64.wrap (a0 + a1)))) == 0), true, true)) else (if (wrap64 (a0)) < 0 then (if (wrap64 (a1)) < 0 then (some (IntKind.u64.wrap ((IntKind.u64.wrap (a0 + a1))), decide ((wrap64 (IntKind.u64.wrap ((IntKind.u64.wrap (a0 + a1))))) < 0), ((IntKind.u64.wrap ((IntKind.u64.wrap (a0 + a1)))) == 0), true, decide ((wrap64 (IntKind.u64.wrap ((IntKind.u64.wrap (a0 + a1))))) ≥ 0))) else (some (IntKind.u64.wrap ((IntKind.u64.wrap (a0 + a1))), decide ((wrap64 (IntKind.u64.wrap ((IntKind.u64.wrap (a0 + a1))))) < 0), ((IntKind.u64.wrap ((IntKind.u64.wrap (a0 + a1)))) == 0), true, false))) else (some (IntKind.u64.wrap ((IntKind.u64.wrap (a0 + a1))), decide ((wrap64 (IntKind.u64.wrap ((IntKind.u64.wrap (a0 + a1))))) < 0), ((IntKind.u64.wrap ((IntKind.u64.wrap (a0 + a1)))) == 0), true, false)))) else (if (wrap64 (a0)) < 0 then (if (wrap64 (a1)) < 0 then (some (IntKind.u64.wrap ((IntKind.u64.wrap (a0 + a1))), decide ((wrap64 (IntKind.u64.wrap ((IntKind.u64.wrap (a0 + a1))))) < 0), ((IntKind.u64.wrap ((IntKind.u64.wrap (a0 + a1)))) == 0), true, decide ((wrap64 (IntKind.u64.wrap ((IntKind.u64.wrap (a0 + a1))))) ≥ 0))) else (some (IntKind.u64.wrap ((IntKind.u64.wrap (a0 + a1))), decide ((wrap64 (IntKind.u64.wrap ((IntKind.u64.wrap (a0 + a1))))) < 0), ((IntKind.u64.wrap ((IntKind.u64.wrap (a0 + a1)))) == 0), true, false))) else (some (IntKind.u64.wrap ((IntKind.u64.wrap (a0 + a1))), decide ((wrap64 (IntKind.u64.wrap ((IntKind.u64.wrap (a0 + a1))))) < 0), ((IntKind.u64.wrap ((IntKind.u64.wrap (a0 + a1)))) == 0), true, false)))) else (if (wrap64 (a0)) < 0 then (if (wrap64 (a1)) < 0 then (some (IntKind.u64.wrap ((IntKind.u64.wrap (a0 + a1))), decide ((wrap64 (IntKind.u64.wrap ((IntKind.u64.wrap (a0 + a1))))) < 0), ((IntKind.u64.wrap ((IntKind.u64.wrap (a0 + a1)))) == 0), true, decide ((wrap64 (IntKind.u64.wrap ((IntKind.u64.wrap (a0 + a1))))) ≥ 0))) else (some (IntKind.u64.wrap ((IntKind.u64.wrap (a0 + a1))), decide ((wrap64 (IntKind.u64.wrap ((IntKind.u64.wrap (a0 + a1))))) < 0), ((IntKind.u64.wrap ((IntKind.u64.wrap (a0 + a1)))) == 0), true, false))) else (some (IntKind.u64.wrap ((IntKind.u64.wrap (a0 + a1))), decide ((wrap64 (IntKind.u64.wrap ((IntKind.u64.wrap (a0 + a1))))) < 0), ((IntKind.u64.wrap ((IntKind.u64.wrap (a0 + a1)))) == 0), true, false)))) else (if a0 = (Go.bits .xor .u64 18446744073709551615 a1) then (if (wrap64 (a0)) ≥ 0 then (if (wrap64 (a1)) ≥ 0 then (if (wrap64 (IntKind.u64.wrap ((IntKind.u64.wrap (a0 + a1))))) < 0 then (some (IntKind.u64.wrap ((IntKind.u64.wrap (a0 + a1))), decide ((wrap64 (IntKind.u64.wrap ((IntKind.u64.wrap (a0 + a1))))) < 0), ((IntKind.u64.wrap ((IntKind.u64.wrap (a0 + a1)))) == 0), false, true)) else (if (wrap64 (a0)) < 0 then (if (wrap64 (a1)) < 0 then (some (IntKind.u64.wrap ((IntKind.u64.wrap (a0 + a1))), decide ((wrap64 (IntKind.u64.wrap ((IntKind.u64.wrap (a0 + a1))))) < 0), ((IntKind.u64.wrap ((IntKind.u64.wrap (a0 + a1)))) == 0), false, decide ((wrap64 (IntKind.u64.wrap ((IntKind.u64.wrap (a0 + a1))))) ≥ 0))) else (some (IntKind.u64.wrap ((IntKind.u64.wrap (a0 + a1))), decide ((wrap64 (IntKind.u64.wrap ((IntKind.u64.wrap (a0 + a1))))) < 0), ((IntKind.u64.wrap ((IntKind.u64.wrap (a0 + a1)))) == 0), false, false))) else (some (IntKind.u64.wrap ((IntKind.u64.wrap (a0 + a1))), decide ((wrap64 (IntKind.u64.wrap ((IntKind.u64.wrap (a0 + a1))))) < 0), ((IntKind.u64.wrap ((IntKind.u64.wrap (a0 + a1)))) == 0), false, false)))) else (if (wrap64 (a0)) < 0 then (if (wrap64 (a1)) < 0 then (some (IntKind.u64.wrap ((IntKind.u64.wrap (a0 + a1))), decide ((wrap64 (IntKind.u64.wrap ((IntKind.u64.wrap (a0 + a1))))) < 0), ((IntKind.u64.wrap ((IntKind.u64.wrap (a0 + a1)))) == 0), false, decide ((wrap64 (IntKind.u64.wrap ((IntKind.u64.wrap (a0 + a1))))) ≥ 0))) else (some (IntKind.u64.wrap ((IntKind.u64.wrap (a0 + a1))), decide ((wrap64 (IntKind.u64.wrap ((IntKind.u64.wrap (a0 + a1))))) < 0), ((IntKind.u64.wrap ((IntKind.u64.wrap (a0 + a1)))) == 0), false, false))) else (some (IntKind.u64.wrap ((IntKind.u64.wrap (a0 + a1))), decide ((wrap64 (IntKind.u64.wrap ((IntKind.u64.wrap (a0 + a1))))) < 0), ((IntKind.u64.wrap ((IntKind.u64.wrap (a0 + a1)))) == 0), false, false)))) else (if (wrap64 (a0)) < 0 then (if (wrap64 (a1)) < 0 then (some (IntKind.u64.wrap ((IntKind.u64.wrap (a0 + a1))), decide ((wrap64 (IntKind.u64.wrap ((IntKind.u64.wrap (a0 + a1))))) < 0), ((IntKind.u64.wrap ((IntKind.u64.wrap (a0 + a1)))) == 0), false, decide ((wrap64 (IntKind.u64.wrap ((IntKind.u64.wrap (a0 + a1))))) ≥ 0))) else (some (IntKind.u64.wrap ((IntKind.u64.wrap (a0 + a1))), decide ((wrap64 (IntKind.u64.wrap ((IntKind.u64.wrap (a0 + a1))))) < 0), ((IntKind.u64.wrap ((IntKind.u64.wrap (a0 + a1)))) == 0), false, false))) else (some (IntKind.u64.wrap ((IntKind.u64.wrap (a0 + a1))), decide ((wrap64 (IntKind.u64.wrap ((IntKind.u64.wrap (a0 + a1))))) < 0), ((IntKind.u64.wrap ((IntKind.u64.wrap (a0 + a1)))) == 0), false, false)))) else (if (wrap64 (a0)) ≥ 0 then (if (wrap64 (a1)) ≥ 0 then (if (wrap64 (IntKind.u64.wrap ((IntKind.u64.wrap (a0 + a1))))) < 0 then (some (IntKind.u64.wrap ((IntKind.u64.wrap (a0 + a1))), decide ((wrap64 (IntKind.u64.wrap ((IntKind.u64.wrap (a0 + a1))))) < 0), ((IntKind.u64.wrap ((IntKind.u64.wrap (a0 + a1)))) == 0), false, true)) else (if (wrap64 (a0)) < 0 then (if (wrap64 (a1)) < 0 then (some (IntKind.u64.wrap ((IntKind.u64.wrap (a0 + a1))), decide ((wrap64 (IntKind.u64.wrap ((IntKind.u64.wrap (a0 + a1))))) < 0), ((IntKind.u64.wrap ((IntKind.u64.wrap (a0 + a1)))) == 0), false, decide ((wrap64 (IntKind.u64.wrap ((IntKind.u64.wrap (a0 + a1))))) ≥ 0))) else (some (IntKind.u64.wrap ((IntKind.u64.wrap (a0 + a1))), decide ((wrap64 (IntKind.u64.wrap ((IntKind.u64.wrap (a0 + a1))))) < 0), ((IntKind.u64.wrap ((IntKind.u64.wrap (a0 + a1)))) == 0), false, false))) else (some (IntKind.u64.wrap ((IntKind.u64.wrap (a0 + a1))), decide ((wrap64 (IntKind.u64.wrap ((IntKind.u64.wrap (a0 + a1))))) < 0), ((IntKind.u64.wrap ((IntKind.u64.wrap (a0 + a1)))) == 0), false, false)))) else (if (wrap64 (a0)) < 0 then (if (wrap64 (a1)) < 0 then (some (IntKind.u64.wrap ((IntKind.u64.wrap (a0 + a1))), decide ((wrap64 (IntKind.u64.wrap ((IntKind.u64.wrap (a0 + a1))))) < 0), ((IntKind.u64.wrap ((IntKind.u64.wrap (a0 + a1)))) == 0), false, decide ((wrap64 (IntKind.u64.wrap ((IntKind.u64.wrap (a0 + a1))))) ≥ 0))) else (some (IntKind.u64.wrap ((IntKind.u64.wrap (a0 + a1))), decide ((wrap64 (IntKind.u64.wrap ((IntKind.u64.wrap (a0 + a1))))) < 0), ((IntKind.u64.wrap ((IntKind.u64.wrap (a0 + a1)))) == 0), false, false))) else (some (IntKind.u64.wrap ((IntKind.u64.wrap (a0 + a1))), decide ((wrap64 (IntKind.u64.wrap ((IntKind.u64.wrap (a0 + a1))))) < 0), ((IntKind.u64.wrap ((IntKind.u64.wrap (a0 + a1)))) == 0), false, false)))) else (if (wrap64 (a0)) < 0 then (if (wrap64 (a1)) < 0 then (some (IntKind.u64.wrap ((IntKind.u64.wrap (a0 + a1))), decide ((wrap64 (IntKind.u64.wrap ((IntKind.u64.wrap (a0 + a1))))) < 0), ((IntKind.u64.wrap ((IntKind.u64.wrap (a0 + a1)))) == 0), false, decide ((wrap64 (IntKind.u64.wrap ((IntKind.u64.wrap (a0 + a1))))) ≥ 0))) else (some (IntKind.u64.wrap ((IntKind.u64.wrap (a0 + a1))), decide ((wrap64 (IntKind.u64.wrap ((IntKind.u64.wrap (a0 + a1))))) < 0), ((IntKind.u64.wrap ((IntKind.u64.wrap (a0 + a1)))) == 0), false, false))) else (some (IntKind.u64.wrap ((IntKind.u64.wrap (a0 + a1))), decide ((wrap64 (IntKind.u64.wrap ((IntKind.u64.wrap (a0 + a1))))) < 0), ((IntKind.u64.wrap ((IntKind.u64.wrap (a0 + a1)))) == 0), false, false)))))) = some (r1, r2, r3, r4, r5) := by rw [if_neg (show ¬ (false = true) by decide)] at H; exact H
    clear H
    have H := H1
    clear H1
    by_cases c34 : a0 > (Go.bits .xor .u64 18446744073709551615 a1)
    · rw [if_pos c34] at H
      have c34b0 : decide ((Go.bits .xor .u64 18446744073709551615 a1) < a0) = true := decide_eq_true c34
      clear c34
      by_cases c35 : (wrap64 (a0)) ≥ 0
      · rw [if_pos c35] at H
        have c35b0 : decide (0 ≤ (wrap64 (a0))) = true := decide_eq_true c35
        clear c35
        by_cases c36 : (wrap64 (a1)) ≥ 0
        · rw [if_pos c36] at H
          have c36b0 : decide (0 ≤ (wrap64 (a1))) = true := decide_eq_true c36
          clear c36
          by_cases c37 : (wrap64 (IntKind.u64.wrap ((IntKind.u64.wrap (a0 + a1))))) < 0
          · rw [if_pos c37] at H
            have c37b0 : decide ((wrap64 (IntKind.u64.wrap ((IntKind.u64.wrap (a0 + a1))))) < 0) = true := decide_eq_true c37
            clear c37
            simp only [Option.some.injEq, Prod.mk.injEq] at H
            obtain ⟨rfl, rfl, rfl, rfl, rfl⟩ := H
            go_enter Tryd.func10, Tryd.ntmps10
            go_wp2
            refine bodyPost_ret (results_list (rs := [.tmp 6, .tmp 7, .tmp 8, .tmp 9, .tmp 10]) rfl (by simp) (.tmp (.tmp (.tmp (.tmp (.tmp .nil)))))) rfl ?_
            exact ⟨by first | rfl | (simp; done) | (simp [*]; done), by repeat (first | exact Drawn0.refl _ | apply Drawn0.step)⟩
          · rw [if_neg c37] at H
            have c37b0 : decide ((wrap64 (IntKind.u64.wrap ((IntKind.u64.wrap (a0 + a1))))) < 0) = false := decide_eq_false c37
            clear c37
            by_cases c38 : (wrap64 (a0)) < 0
            · rw [if_pos c38] at H
              have c38b0 : decide ((wrap64 (a0)) < 0) = true := decide_eq_true c38
              clear c38
              by_cases c39 : (wrap64 (a1)) < 0
              · rw [if_pos c39] at H
                have c39b0 : decide ((wrap64 (a1)) < 0) = true := decide_eq_true c39
                clear c39
                simp only [Option.some.injEq, Prod.mk.injEq] at H
                obtain ⟨rfl, rfl, rfl, rfl, rfl⟩ := H
                go_enter Tryd.func10, Tryd.ntmps10
                go_wp2
                refine bodyPost_ret (results_list (rs := [.tmp 6, .tmp 7, .tmp 8, .tmp 9, .tmp 10]) rfl (by simp) (.tmp (.tmp (.tmp (.tmp (.tmp .nil)))))) rfl ?_
                exact ⟨by first | rfl | (simp; done) | (simp [*]; done), by repeat (first | exact Drawn0.refl _ | apply Drawn0.step)⟩
              · rw [if_neg c39] at H
                have c39b0 : decide ((wrap64 (a1)) < 0) = false := decide_eq_false c39
                clear c39
                simp only [Option.some.injEq, Prod.mk.injEq] at H
                obtain ⟨rfl, rfl, rfl, rfl, rfl⟩ := H
                go_enter Tryd.func10, Tryd.ntmps10
                go_wp2
                refine bodyPost_ret (results_list (rs := [.tmp 6, .tmp 7, .tmp 8, .tmp 9, .tmp 10]) rfl (by simp) (.tmp (.tmp (.tmp (.tmp (.tmp .nil)))))) rfl ?_
                exact ⟨by first | rfl | (simp; done) | (simp [*]; done), by repeat (first | exact Drawn0.refl _ | apply Drawn0.step)⟩
            · rw [if_neg c38] at H
              have c38b0 : decide ((wrap64 (a0)) < 0) = false := decide_eq_false c38
              clear c38
              simp only [Option.some.injEq, Prod.mk.injEq] at H
              obtain ⟨rfl, rfl, rfl, rfl, rfl⟩ := H
              go_enter Tryd.func10, Tryd.ntmps10
              go_wp2
              refine bodyPost_ret (results_list (rs := [.tmp 6, .tmp 7, .tmp 8, .tmp 9, .tmp 10]) rfl (by simp) (.tmp (.tmp (.tmp (.tmp (.tmp .nil)))))) rfl ?_
              exact ⟨by first | rfl | (simp; done) | (simp [*]; done), by repeat (first | exact Drawn0.refl _ | apply Drawn0.step)⟩
        · rw [if_neg c36] at H
          have c36b0 : decide (0 ≤ (wrap64 (a1))) = false := decide_eq_false c36
          clear c36
          by_cases c40 : (wrap64 (a0)) < 0
          · rw [if_pos c40] at H
            have c40b0 : decide ((wrap64 (a0)) < 0) = true := decide_eq_true c40
            clear c40
            by_cases c41 : (wrap64 (a1)) < 0
            · rw [if_pos c41] at H
              have c41b0 : decide ((wrap64 (a1)) < 0) = true := decide_eq_true c41
              clear c41
              simp only [Option.some.injEq, Prod.mk.injEq] at H
              obtain ⟨rfl, rfl, rfl, rfl, rfl⟩ := H
              go_enter Tryd.func10, Tryd.ntmps10
              go_wp2
              refine bodyPost_ret (results_list (rs := [.tmp 6, .tmp 7, .tmp 8, .tmp 9, .tmp 10]) rfl (by simp) (.tmp (.tmp (.tmp (.tmp (.tmp .nil)))))) rfl ?_
              exact ⟨by first | rfl | (simp; done) | (simp [*]; done), by repeat (first | exact Drawn0.refl _ | apply Drawn0.step)⟩
            · rw [if_neg c41] at H
              have c41b0 : decide ((wrap64 (a1)) < 0) = false := decide_eq_false c41
              clear c41
              simp only [Option.some.injEq, Prod.mk.injEq] at H
              obtain ⟨rfl, rfl, rfl, rfl, rfl⟩ := H
              go_enter Tryd.func10, Tryd.ntmps10
              go_wp2
              refine bodyPost_ret (results_list (rs := [.tmp 6, .tmp 7, .tmp 8, .tmp 9, .tmp 10]) rfl (by simp) (.tmp (.tmp (.tmp (.tmp (.tmp .nil)))))) rfl ?_
              exact ⟨by first | rfl | (simp; done) | (simp [*]; done), by repeat (first | exact Drawn0.refl _ | apply Drawn0.step)⟩
          · rw [if_neg c40] at H
            have c40b0 : decide ((wrap64 (a0)) < 0) = false := decide_eq_false c40
            clear c40
            simp only [Option.some.injEq, Prod.mk.injEq] at H
            obtain ⟨rfl, rfl, rfl, rfl, rfl⟩ := H
            go_enter Tryd.func10, Tryd.ntmps10
            go_wp2
            refine bodyPost_ret (results_list (rs := [.tmp 6, .tmp 7, .tmp 8, .tmp 9, .tmp 10]) rfl (by simp) (.tmp (.tmp (.tmp (.tmp (.tmp .nil)))))) rfl ?_
            exact ⟨by first | rfl | (simp; done) | (simp [*]; done), by repeat (first | exact Drawn0.refl _ | apply Drawn0.step)⟩
      · rw [if_neg c35] at H
        have c35b0 : decide (0 ≤ (wrap64 (a0))) = false := decide_eq_false c35
        clear c35
        by_cases c42 : (wrap64 (a0)) < 0
        · rw [if_pos c42] at H
          have c42b0 : decide ((wrap64 (a0)) < 0) = true := decide_eq_true c42
          clear c42
          by_cases c43 : (wrap64 (a1)) < 0
          · rw [if_pos c43] at H
            have c43b0 : decide ((wrap64 (a1)) < 0) = true := decide_eq_true c43
            clear c43
            simp only [Option.some.injEq, Prod.mk.injEq] at H
            obtain ⟨rfl, rfl, rfl, rfl, rfl⟩ := H
            go_enter Tryd.func10, Tryd.ntmps10
            go_wp2
            refine bodyPost_ret (results_list (rs := [.tmp 6, .tmp 7, .tmp 8, .tmp 9, .tmp 10]) rfl (by simp) (.tmp (.tmp (.tmp (.tmp (.tmp .nil)))))) rfl ?_
            exact ⟨by first | rfl | (simp; done) | (simp [*]; done), by repeat (first | exact Drawn0.refl _ | apply Drawn0.step)⟩
          · rw [if_neg c43] at H
            have c43b0 : decide ((wrap64 (a1)) < 0) = false := decide_eq_false c43
            clear c43
            simp only [Option.some.injEq, Prod.mk.injEq] at H
            obtain ⟨rfl, rfl, rfl, rfl, rfl⟩ := H
            go_enter Tryd.func10, Tryd.ntmps10
            go_wp2
            refine bodyPost_ret (results_list (rs := [.tmp 6, .tmp 7, .tmp 8, .tmp 9, .tmp 10]) rfl (by simp) (.tmp (.tmp (.tmp (.tmp (.tmp .nil)))))) rfl ?_
            exact ⟨by first | rfl | (simp; done) | (simp [*]; done), by repeat (first | exact Drawn0.refl _ | apply Drawn0.step)⟩
        · rw [if_neg c42] at H
          have c42b0 : decide ((wrap64 (a0)) < 0) = false := decide_eq_false c42
          clear c42
          simp only [Option.some.injEq, Prod.mk.injEq] at H
          obtain ⟨rfl, rfl, rfl, rfl, rfl⟩ := H
          go_enter Tryd.func10, Tryd.ntmps10
          go_wp2
          refine bodyPost_ret (results_list (rs := [.tmp 6, .tmp 7, .tmp 8, .tmp 9, .tmp 10]) rfl (by simp) (.tmp (.tmp (.tmp (.tmp (.tmp .nil)))))) rfl ?_
          exact ⟨by first | rfl | (simp; done) | (simp [*]; done), by repeat (first | exact Drawn0.refl _ | apply Drawn0.step)⟩
    · rw [if_neg c34] at H
      have c34b0 : decide ((Go.bits .xor .u64 18446744073709551615 a1) < a0) = false := decide_eq_false c34
      clear c34
      by_cases c44 : a0 = (Go.bits .xor .u64 18446744073709551615 a1)
      · rw [if_pos c44] at H
        have c44b0 : (a0 == (Go.bits .xor .u64 18446744073709551615 a1)) = true := beq_iff_eq.mpr c44
        have c44b1 : (a0 != (Go.bits .xor .u64 18446744073709551615 a1)) = false := bne_eq_false_iff_eq.mpr c44
        clear c44
        by_cases c45 : (wrap64 (a0)) ≥ 0
        · rw [if_pos c45] at H
          have c45b0 : decide (0 ≤ (wrap64 (a0))) = true := decide_eq_true c45
          clear c45
          by_cases c46 : (wrap64 (a1)) ≥ 0
          · rw [if_pos c46] at H
            have c46b0 : decide (0 ≤ (wrap64 (a1))) = true := decide_eq_true c46
            clear c46
            by_cases c47 : (wrap64 (IntKind.u64.wrap ((IntKind.u64.wrap (a0 + a1))))) < 0
            · rw [if_pos c47] at H
              have c47b0 : decide ((wrap64 (IntKind.u64.wrap ((IntKind.u64.wrap (a0 + a1))))) < 0) = true := decide_eq_true c47
              clear c47
              simp only [Option.some.injEq, Prod.mk.injEq] at H
              obtain ⟨rfl, rfl, rfl, rfl, rfl⟩ := H
              go_enter Tryd.func10, Tryd.ntmps10
              go_wp2
              refine bodyPost_ret (results_list (rs := [.tmp 6, .tmp 7, .tmp 8, .tmp 9, .tmp 10]) rfl (by simp) (.tmp (.tmp (.tmp (.tmp (.tmp .nil)))))) rfl ?_
              exact ⟨by first | rfl | (simp; done) | (simp [*]; done), by repeat (first | exact Drawn0.refl _ | apply Drawn0.step)⟩
            · rw [if_neg c47] at H
              have c47b0 : decide ((wrap64 (IntKind.u64.wrap ((IntKind.u64.wrap (a0 + a1))))) < 0) = false := decide_eq_false c47
              clear c47
              by_cases c48 : (wrap64 (a0)) < 0
              · rw [if_pos c48] at H
                have c48b0 : decide ((wrap64 (a0)) < 0) = true := decide_eq_true c48
                clear c48
                by_cases c49 : (wrap64 (a1)) < 0
                · rw [if_pos c49] at H
                  have c49b0 : decide ((wrap64 (a1)) < 0) = true := decide_eq_true c49
                  clear c49
                  simp only [Option.some.injEq, Prod.mk.injEq] at H
                  obtain ⟨rfl, rfl, rfl, rfl, rfl⟩ := H
                  go_enter Tryd.func10, Tryd.ntmps10
                  go_wp2
                  refine bodyPost_ret (results_list (rs := [.tmp 6, .tmp 7, .tmp 8, .tmp 9, .tmp 10]) rfl (by simp) (.tmp (.tmp (.tmp (.tmp (.tmp .nil)))))) rfl ?_
                  exact ⟨by first | rfl | (simp; done) | (simp [*]; done), by repeat (first | exact Drawn0.refl _ | apply Drawn0.step)⟩
                · rw [if_neg c49] at H
                  have c49b0 : decide ((wrap64 (a1)) < 0) = false := decide_eq_false c49
                  clear c49
                  simp only [Option.some.injEq, Prod.mk.injEq] at H
                  obtain ⟨rfl, rfl, rfl, rfl, rfl⟩ := H
                  go_enter Tryd.func10, Tryd.ntmps10
                  go_wp2
                  refine bodyPost_ret (results_list (rs := [.tmp 6, .tmp 7, .tmp 8, .tmp 9, .tmp 10]) rfl (by simp) (.tmp (.tmp (.tmp (.tmp (.tmp .nil)))))) rfl ?_
                  exact ⟨by first | rfl | (simp; done) | (simp [*]; done), by repeat (first | exact Drawn0.refl _ | apply Drawn0.step)⟩
              · rw [if_neg c48] at H
                have c48b0 : decide ((wrap64 (a0)) < 0) = false := decide_eq_false c48
                clear c48
                simp only [Option.some.injEq, Prod.mk.injEq] at H
                obtain ⟨rfl, rfl, rfl, rfl, rfl⟩ := H
                go_enter Tryd.func10, Tryd.ntmps10
                go_wp2
                refine bodyPost_ret (results_list (rs := [.tmp 6, .tmp 7, .tmp 8, .tmp 9, .tmp 10]) rfl (by simp) (.tmp (.tmp (.tmp (.tmp (.tmp .nil)))))) rfl ?_
                exact ⟨by first | rfl | (simp; done) | (simp [*]; done), by repeat (first | exact Drawn0.refl _ | apply Drawn0.step)⟩
          · rw [if_neg c46] at H
            have c46b0 : decide (0 ≤ (wrap64 (a1))) = false := decide_eq_false c46
            clear c46
            by_cases c50 : (wrap64 (a0)) < 0
            · rw [if_pos c50] at H
              have c50b0 : decide ((wrap64 (a0)) < 0) = true := decide_eq_true c50
              clear c50
              by_cases c51 : (wrap64 (a1)) < 0
              · rw [if_pos c51] at H
                have c51b0 : decide ((wrap64 (a1)) < 0) = true := decide_eq_true c51
                clear c51
                simp only [Option.some.injEq, Prod.mk.injEq] at H
                obtain ⟨rfl, rfl, rfl, rfl, rfl⟩ := H
                go_enter Tryd.func10, Tryd.ntmps10
                go_wp2
                refine bodyPost_ret (results_list (rs := [.tmp 6, .tmp 7, .tmp 8, .tmp 9, .tmp 10]) rfl (by simp) (.tmp (.tmp (.tmp (.tmp (.tmp .nil)))))) rfl ?_
                exact ⟨by first | rfl | (simp; done) | (simp [*]; done), by repeat (first | exact Drawn0.refl _ | apply Drawn0.step)⟩
              · rw [if_neg c51] at H
                have c51b0 : decide ((wrap64 (a1)) < 0) = false := decide_eq_false c51
                clear c51
                simp only [Option.some.injEq, Prod.mk.injEq] at H
                obtain ⟨rfl, rfl, rfl, rfl, rfl⟩ := H
                go_enter Tryd.func10, Tryd.ntmps10
                go_wp2
                refine bodyPost_ret (results_list (rs := [.tmp 6, .tmp 7, .tmp 8, .tmp 9, .tmp 10]) rfl (by simp) (.tmp (.tmp (.tmp (.tmp (.tmp .nil)))))) rfl ?_
                exact ⟨by first | rfl | (simp; done) | (simp [*]; done), by repeat (first | exact Drawn0.refl _ | apply Drawn0.step)⟩
            · rw [if_neg c50] at H
              have c50b0 : decide ((wrap64 (a0)) < 0) = false := decide_eq_false c50
              clear c50
              simp only [Option.some.injEq, Prod.mk.injEq] at H
              obtain ⟨rfl, rfl, rfl, rfl, rfl⟩ := H
              go_enter Tryd.func10, Tryd.ntmps10
              go_wp2
              refine bodyPost_ret (results_list (rs := [.tmp 6, .tmp 7, .tmp 8, .tmp 9, .tmp 10]) rfl (by simp) (.tmp (.tmp (.tmp (.tmp (.tmp .nil)))))) rfl ?_
              exact ⟨by first | rfl | (simp; done) | (simp [*]; done), by repeat (first | exact Drawn0.refl _ | apply Drawn0.step)⟩
        · rw [if_neg c45] at H
          have c45b0 : decide (0 ≤ (wrap64 (a0))) = false := decide_eq_false c45
          clear c45
          by_cases c52 : (wrap64 (a0)) < 0
          · rw [if_pos c52] at H
            have c52b0 : decide ((wrap64 (a0)) < 0) = true := decide_eq_true c52
            clear c52
            by_cases c53 : (wrap64 (a1)) < 0
            · rw [if_pos c53] at H
              have c53b0 : decide ((wrap64 (a1)) < 0) = true := decide_eq_true c53
              clear c53
              simp only [Option.some.injEq, Prod.mk.injEq] at H
              obtain ⟨rfl, rfl, rfl, rfl, rfl⟩ := H
              go_enter Tryd.func10, Tryd.ntmps10
              go_wp2
              refine bodyPost_ret (results_list (rs := [.tmp 6, .tmp 7, .tmp 8, .tmp 9, .tmp 10]) rfl (by simp) (.tmp (.tmp (.tmp (.tmp (.tmp .nil)))))) rfl ?_
              exact ⟨by first | rfl | (simp; done) | (simp [*]; done), by repeat (first | exact Drawn0.refl _ | apply Drawn0.step)⟩
            · rw [if_neg c53] at H
              have c53b0 : decide ((wrap64 (a1)) < 0) = false := decide_eq_false c53
              clear c53
              simp only [Option.some.injEq, Prod.mk.injEq] at H
              obtain ⟨rfl, rfl, rfl, rfl, rfl⟩ := H
              go_enter Tryd.func10, Tryd.ntmps10
              go_wp2
              refine bodyPost_ret (results_list (rs := [.tmp 6, .tmp 7, .tmp 8, .tmp 9, .tmp 10]) rfl (by simp) (.tmp (.tmp (.tmp (.tmp (.tmp .nil)))))) rfl ?_
              exact ⟨by first | rfl | (simp; done) | (simp [*]; done), by repeat (first | exact Drawn0.refl _ | apply Drawn0.step)⟩
          · rw [if_neg c52] at H
            have c52b0 : decide ((wrap64 (a0)) < 0) = false := decide_eq_false c52
            clear c52
            simp only [Option.some.injEq, Prod.mk.injEq] at H
            obtain ⟨rfl, rfl, rfl, rfl, rfl⟩ := H
            go_enter Tryd.func10, Tryd.ntmps10
            go_wp2
            refine bodyPost_ret (results_list (rs := [.tmp 6, .tmp 7, .tmp 8, .tmp 9, .tmp 10]) rfl (by simp) (.tmp (.tmp (.tmp (.tmp (.tmp .nil)))))) rfl ?_
            exact ⟨by first | rfl | (simp; done) | (simp [*]; done), by repeat (first | exact Drawn0.refl _ | apply Drawn0.step)⟩
      · rw [if_neg c44] at H
        have c44b0 : (a0 == (Go.bits .xor .u64 18446744073709551615 a1)) = false := beq_eq_false_iff_ne.mpr c44
        have c44b1 : (a0 != (Go.bits .xor .u64 18446744073709551615 a1)) = true := bne_iff_ne.mpr c44
        by_cases c54 : (wrap64 (a0)) ≥ 0
        · rw [if_pos c54] at H
          have c54b0 : decide (0 ≤ (wrap64 (a0))) = true := decide_eq_true c54
          clear c54
          by_cases c55 : (wrap64 (a1)) ≥ 0
          · rw [if_pos c55] at H
            have c55b0 : decide (0 ≤ (wrap64 (a1))) = true := decide_eq_true c55
            clear c55
            by_cases c56 : (wrap64 (IntKind.u64.wrap ((IntKind.u64.wrap (a0 + a1))))) < 0
            · rw [if_pos c56] at H
              have c56b0 : decide ((wrap64 (IntKind.u64.wrap ((IntKind.u64.wrap (a0 + a1))))) < 0) = true := decide_eq_true c56
              clear c56
              simp only [Option.some.injEq, Prod.mk.injEq] at H
              obtain ⟨rfl, rfl, rfl, rfl, rfl⟩ := H
              go_enter Tryd.func10, Tryd.ntmps10
              go_wp2
              refine bodyPost_ret (results_list (rs := [.tmp 6, .tmp 7, .tmp 8, .tmp 9, .tmp 10]) rfl (by simp) (.tmp (.tmp (.tmp (.tmp (.tmp .nil)))))) rfl ?_
              exact ⟨by first | rfl | (simp; done) | (simp [*]; done), by repeat (first | exact Drawn0.refl _ | apply Drawn0.step)⟩
            · rw [if_neg c56] at H
              have c56b0 : decide ((wrap64 (IntKind.u64.wrap ((IntKind.u64.wrap (a0 + a1))))) < 0) = false := decide_eq_false c56
              clear c56
              by_cases c57 : (wrap64 (a0)) < 0
              · rw [if_pos c57] at H
                have c57b0 : decide ((wrap64 (a0)) < 0) = true := decide_eq_true c57
                clear c57
                by_cases c58 : (wrap64 (a1)) < 0
                · rw [if_pos c58] at H
                  have c58b0 : decide ((wrap64 (a1)) < 0) = true := decide_eq_true c58
                  clear c58
                  simp only [Option.some.injEq, Prod.mk.injEq] at H
                  obtain ⟨rfl, rfl, rfl, rfl, rfl⟩ := H
                  go_enter Tryd.func10, Tryd.ntmps10
                  go_wp2
                  refine bodyPost_ret (results_list (rs := [.tmp 6, .tmp 7, .tmp 8, .tmp 9, .tmp 10]) rfl (by simp) (.tmp (.tmp (.tmp (.tmp (.tmp .nil)))))) rfl ?_
                  exact ⟨by first | rfl | (simp; done) | (simp [*]; done), by repeat (first | exact Drawn0.refl _ | apply Drawn0.step)⟩
                · rw [if_neg c58] at H
                  have c58b0 : decide ((wrap64 (a1)) < 0) = false := decide_eq_false c58
                  clear c58
                  simp only [Option.some.injEq, Prod.mk.injEq] at H
                  obtain ⟨rfl, rfl, rfl, rfl, rfl⟩ := H
                  go_enter Tryd.func10, Tryd.ntmps10
                  go_wp2
                  refine bodyPost_ret (results_list (rs := [.tmp 6, .tmp 7, .tmp 8, .tmp 9, .tmp 10]) rfl (by simp) (.tmp (.tmp (.tmp (.tmp (.tmp .nil)))))) rfl ?_
                  exact ⟨by first | rfl | (simp; done) | (simp [*]; done), by repeat (first | exact Drawn0.refl _ | apply Drawn0.step)⟩
              · rw [if_neg c57] at H
                have c57b0 : decide ((wrap64 (a0)) < 0) = false := decide_eq_false c57
                clear c57
                simp only [Option.some.injEq, Prod.mk.injEq] at H
                obtain ⟨rfl, rfl, rfl, rfl, rfl⟩ := H
                go_enter Tryd.func10, Tryd.ntmps10
                go_wp2
                refine bodyPost_ret (results_list (rs := [.tmp 6, .tmp 7, .tmp 8, .tmp 9, .tmp 10]) rfl (by simp) (.tmp (.tmp (.tmp (.tmp (.tmp .nil)))))) rfl ?_
                exact ⟨by first | rfl | (simp; done) | (simp [*]; done), by repeat (first | exact Drawn0.refl _ | apply Drawn0.step)⟩
          · rw [if_neg c55] at H
            have c55b0 : decide (0 ≤ (wrap64 (a1))) = false := decide_eq_false c55
            clear c55
            by_cases c59 : (wrap64 (a0)) < 0
            · rw [if_pos c59] at H
              have c59b0 : decide ((wrap64 (a0)) < 0) = true := decide_eq_true c59
              clear c59
              by_cases c60 : (wrap64 (a1)) < 0
              · rw [if_pos c60] at H
                have c60b0 : decide ((wrap64 (a1)) < 0) = true := decide_eq_true c60
                clear c60
                simp only [Option.some.injEq, Prod.mk.injEq] at H
                obtain ⟨rfl, rfl, rfl, rfl, rfl⟩ := H
                go_enter Tryd.func10, Tryd.ntmps10
                go_wp2
                refine bodyPost_ret (results_list (rs := [.tmp 6, .tmp 7, .tmp 8, .tmp 9, .tmp 10]) rfl (by simp) (.tmp (.tmp (.tmp (.tmp (.tmp .nil)))))) rfl ?_
                exact ⟨by first | rfl | (simp; done) | (simp [*]; done), by repeat (first | exact Drawn0.refl _ | apply Drawn0.step)⟩
              · rw [if_neg c60] at H
                have c60b0 : decide ((wrap64 (a1)) < 0) = false := decide_eq_false c60
                clear c60
                simp only [Option.some.injEq, Prod.mk.injEq] at H
                obtain ⟨rfl, rfl, rfl, rfl, rfl⟩ := H
                go_enter Tryd.func10, Tryd.ntmps10
                go_wp2
                refine bodyPost_ret (results_list (rs := [.tmp 6, .tmp 7, .tmp 8, .tmp 9, .tmp 10]) rfl (by simp) (.tmp (.tmp (.tmp (.tmp (.tmp .nil)))))) rfl ?_
                exact ⟨by first | rfl | (simp; done) | (simp [*]; done), by repeat (first | exact Drawn0.refl _ | apply Drawn0.step)⟩
            · rw [if_neg c59] at H
              have c59b0 : decide ((wrap64 (a0)) < 0) = false := decide_eq_false c59
              clear c59
              simp only [Option.some.injEq, Prod.mk.injEq] at H
              obtain ⟨rfl, rfl, rfl, rfl, rfl⟩ := H
              go_enter Tryd.func10, Tryd.ntmps10
              go_wp2
              refine bodyPost_ret (results_list (rs := [.tmp 6, .tmp 7, .tmp 8, .tmp 9, .tmp 10]) rfl (by simp) (.tmp (.tmp (.tmp (.tmp (.tmp .nil)))))) rfl ?_
              exact ⟨by first | rfl | (simp; done) | (simp [*]; done), by repeat (first | exact Drawn0.refl _ | apply Drawn0.step)⟩
        · rw [if_neg c54] at H
          have c54b0 : decide (0 ≤ (wrap64 (a0))) = false := decide_eq_false c54
          clear c54
          by_cases c61 : (wrap64 (a0)) < 0
          · rw [if_pos c61] at H
            have c61b0 : decide ((wrap64 (a0)) < 0) = true := decide_eq_true c61
            clear c61
            by_cases c62 : (wrap64 (a1)) < 0
            · rw [if_pos c62] at H
              have c62b0 : decide ((wrap64 (a1)) < 0) = true := decide_eq_true c62
              clear c62
              simp only [Option.some.injEq, Prod.mk.injEq] at H
              obtain ⟨rfl, rfl, rfl, rfl, rfl⟩ := H
              go_enter Tryd.func10, Tryd.ntmps10
              go_wp2
              refine bodyPost_ret (results_list (rs := [.tmp 6, .tmp 7, .tmp 8, .tmp 9, .tmp 10]) rfl (by simp) (.tmp (.tmp (.tmp (.tmp (.tmp .nil)))))) rfl ?_
              exact ⟨by first | rfl | (simp; done) | (simp [*]; done), by repeat (first | exact Drawn0.refl _ | apply Drawn0.step)⟩
            · rw [if_neg c62] at H
              have c62b0 : decide ((wrap64 (a1)) < 0) = false := decide_eq_false c62
              clear c62
              simp only [Option.some.injEq, Prod.mk.injEq] at H
              obtain ⟨rfl, rfl, rfl, rfl, rfl⟩ := H
              go_enter Tryd.func10, Tryd.ntmps10
              go_wp2
              refine bodyPost_ret (results_list (rs := [.tmp 6, .tmp 7, .tmp 8, .tmp 9, .tmp 10]) rfl (by simp) (.tmp (.tmp (.tmp (.tmp (.tmp .nil)))))) rfl ?_
              exact ⟨by first | rfl | (simp; done) | (simp [*]; done), by repeat (first | exact Drawn0.refl _ | apply Drawn0.step)⟩
          · rw [if_neg c61] at H
            have c61b0 : decide ((wrap64 (a0)) < 0) = false := decide_eq_false c61
            clear c61
            simp only [Option.some.injEq, Prod.mk.injEq] at H
            obtain ⟨rfl, rfl, rfl, rfl, rfl⟩ := H
            go_enter Tryd.func10, Tryd.ntmps10
            go_wp2
            refine bodyPost_ret (results_list (rs := [.tmp 6, .tmp 7, .tmp 8, .tmp 9, .tmp 10]) rfl (by simp) (.tmp (.tmp (.tmp (.tmp (.tmp .nil)))))) rfl ?_
            exact ⟨by first | rfl | (simp; done) | (simp [*]; done), by repeat (first | exact Drawn0.refl _ | apply Drawn0.step)⟩

end Go.Proofs.YtkfkonchbkiakaaDoor.Q
