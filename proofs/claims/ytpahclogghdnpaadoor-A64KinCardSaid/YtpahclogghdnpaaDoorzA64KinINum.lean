/- Parts of the proof, one behind the other. -/
import Derived.Test.YtpahclogghdnpaaDoorzA64KinRLG
section
/- RL: what bits of words are, as bit vectors. -/
namespace Go.Proofs.YtpahclogghdnpaaDoorRL
open Go
set_option linter.unusedVariables false
theorem wrap_i64 (n : Int) : IntKind.i64.wrap n = (n + 9223372036854775808) % 18446744073709551616 - 9223372036854775808 := by
  unfold IntKind.wrap
  simp [IntKind.signed, IntKind.bits]
  split <;> omega
end Go.Proofs.YtpahclogghdnpaaDoorRL
end
section
/- Fields of words, as numbers: masks, shifts, ors of what has no bit in common. -/
namespace Go.Proofs.YtpahclogghdnpaaDoor.isa
open Go Go.Proofs Go.Proofs.YtpahclogghdnpaaDoorRL
set_option linter.unusedVariables false
set_option linter.unusedSimpArgs false
theorem wrap_i64_in {n : Int} (h0 : -9223372036854775808 ≤ n) (h1 : n < 9223372036854775808) : IntKind.i64.wrap n = n := by rw [wrap_i64]; omega
end Go.Proofs.YtpahclogghdnpaaDoor.isa
end
