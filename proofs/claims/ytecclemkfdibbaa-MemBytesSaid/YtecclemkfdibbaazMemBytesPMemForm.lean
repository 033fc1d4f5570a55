/- MemBytes: what the law's function computes. -/
import Derived.Test.YtecclemkfdibbaazMemBytesPSpec
import Derived.Test.YtecclemkfdibbaazMemBytesRLBits
namespace Go.Proofs.Ytecclemkfdibbaa.memBytes
open Go Go.Proofs.YtecclemkfdibbaaRL Go.Proofs.Ytecclemkfdibbaa.sp
set_option linter.unusedVariables false
def aks : List AK := [.one (.int .u64), .one (.int .u64)]
def byt (v : Int) (k : Nat) : Int := IntKind.u8.wrap (v.fdiv (2 ^ k))
def put (x : Int) (b : Int) : Int := Go.bits .or .u64 (IntKind.u64.wrap (x * 2 ^ 8)) (IntKind.u64.wrap b)
def four (v : Int) (k : Nat) : Int := IntKind.u64.wrap (IntKind.u32.wrap (put (put (put (put 0 (byt v (k + 24))) (byt v (k + 16))) (byt v (k + 8))) (byt v k)))
def c (p : Bool) (x y : Bool) : Bool := match p with
  | true => x
  | false => y
def same (v : Int) (k : Nat) (K : Bool) : Bool := c (!(byt v k == byt v k)) false K
def form (v : Int) : Bool := same v 0 <| same v 8 <| same v 16 <| same v 24 <| same v 32 <| same v 40 <| same v 48 <| same v 56 <| Go.bits .or .u64 (four v 0) (IntKind.u64.wrap (four v 32 * 2 ^ 32)) == v
end Go.Proofs.Ytecclemkfdibbaa.memBytes
