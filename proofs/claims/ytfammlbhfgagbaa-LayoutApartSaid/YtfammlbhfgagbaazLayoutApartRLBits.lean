/- RL: what bits of words are, as bit vectors. -/
import Derived.Test.YtfammlbhfgagbaazLayoutApartRL3
namespace Go.Proofs.YtfammlbhfgagbaaRL
open Go
set_option linter.unusedVariables false
theorem wrap_u64 (n : Int) : IntKind.u64.wrap n = n % 18446744073709551616 := by
  unfold IntKind.wrap
  simp [IntKind.signed, IntKind.bits]
theorem wrap_i64 (n : Int) : IntKind.i64.wrap n = (n + 9223372036854775808) % 18446744073709551616 - 9223372036854775808 := by
  unfold IntKind.wrap
  simp [IntKind.signed, IntKind.bits]
  split <;> omega
end Go.Proofs.YtfammlbhfgagbaaRL
