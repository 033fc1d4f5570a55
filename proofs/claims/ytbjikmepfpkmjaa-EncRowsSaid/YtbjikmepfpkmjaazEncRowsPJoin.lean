/- What the law's function leans on. -/
import Derived.Test.YtbjikmepfpkmjaazEncRowsPBytes
import Derived.Test.YtbjikmepfpkmjaazEncRowsIRefW
namespace Go.Proofs.Ytbjikmepfpkmjaa
end Go.Proofs.Ytbjikmepfpkmjaa
