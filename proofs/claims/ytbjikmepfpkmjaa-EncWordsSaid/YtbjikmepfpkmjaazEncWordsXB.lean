/- Small words for the printed contracts. -/
import Derived.Test.YtbjikmepfpkmjaazEncWordsWWords
namespace Go.Proofs.Ytbjikmepfpkmjaa.X
theorem signed_u64 : IntKind.u64.signed = false := rfl
theorem signed_u32 : IntKind.u32.signed = false := rfl
theorem signed_u8 : IntKind.u8.signed = false := rfl
theorem max_u64 : IntKind.u64.max = 18446744073709551615 := by decide
theorem max_u32 : IntKind.u32.max = 4294967295 := by decide
theorem max_u8 : IntKind.u8.max = 255 := by decide
end Go.Proofs.Ytbjikmepfpkmjaa.X
