/- MemBytes: what the law's function computes, place by place. -/
import Derived.Test.YtecclemkfdibbaazMemBytesPMemForm
namespace Go.Proofs.Ytecclemkfdibbaa.memBytes
open Go Go.Proofs.YtecclemkfdibbaaRL Go.Proofs.Ytecclemkfdibbaa.sp
set_option maxRecDepth 100000
theorem f16 (m : Nat) (v : Int) : lawI Try.prog D 100 3 [.md .u64 m [(16, 64)], .raw (.int .u64 v)] [] = form v := by kernel_rfl
theorem f17 (m : Nat) (v : Int) : lawI Try.prog D 100 3 [.md .u64 m [(17, 64)], .raw (.int .u64 v)] [] = form v := by kernel_rfl
theorem f18 (m : Nat) (v : Int) : lawI Try.prog D 100 3 [.md .u64 m [(18, 64)], .raw (.int .u64 v)] [] = form v := by kernel_rfl
theorem f19 (m : Nat) (v : Int) : lawI Try.prog D 100 3 [.md .u64 m [(19, 64)], .raw (.int .u64 v)] [] = form v := by kernel_rfl
theorem f20 (m : Nat) (v : Int) : lawI Try.prog D 100 3 [.md .u64 m [(20, 64)], .raw (.int .u64 v)] [] = form v := by kernel_rfl
theorem f21 (m : Nat) (v : Int) : lawI Try.prog D 100 3 [.md .u64 m [(21, 64)], .raw (.int .u64 v)] [] = form v := by kernel_rfl
theorem f22 (m : Nat) (v : Int) : lawI Try.prog D 100 3 [.md .u64 m [(22, 64)], .raw (.int .u64 v)] [] = form v := by kernel_rfl
theorem f23 (m : Nat) (v : Int) : lawI Try.prog D 100 3 [.md .u64 m [(23, 64)], .raw (.int .u64 v)] [] = form v := by kernel_rfl
theorem f24 (m : Nat) (v : Int) : lawI Try.prog D 100 3 [.md .u64 m [(24, 64)], .raw (.int .u64 v)] [] = form v := by kernel_rfl
theorem f25 (m : Nat) (v : Int) : lawI Try.prog D 100 3 [.md .u64 m [(25, 64)], .raw (.int .u64 v)] [] = form v := by kernel_rfl
theorem f26 (m : Nat) (v : Int) : lawI Try.prog D 100 3 [.md .u64 m [(26, 64)], .raw (.int .u64 v)] [] = form v := by kernel_rfl
theorem f27 (m : Nat) (v : Int) : lawI Try.prog D 100 3 [.md .u64 m [(27, 64)], .raw (.int .u64 v)] [] = form v := by kernel_rfl
theorem f28 (m : Nat) (v : Int) : lawI Try.prog D 100 3 [.md .u64 m [(28, 64)], .raw (.int .u64 v)] [] = form v := by kernel_rfl
theorem f29 (m : Nat) (v : Int) : lawI Try.prog D 100 3 [.md .u64 m [(29, 64)], .raw (.int .u64 v)] [] = form v := by kernel_rfl
theorem f30 (m : Nat) (v : Int) : lawI Try.prog D 100 3 [.md .u64 m [(30, 64)], .raw (.int .u64 v)] [] = form v := by kernel_rfl
theorem f31 (m : Nat) (v : Int) : lawI Try.prog D 100 3 [.md .u64 m [(31, 64)], .raw (.int .u64 v)] [] = form v := by kernel_rfl
end Go.Proofs.Ytecclemkfdibbaa.memBytes
