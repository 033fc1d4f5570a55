/- MemBytes: what the law's function computes, place by place. -/
import Derived.Test.YtecclemkfdibbaazMemBytesPMemForm
namespace Go.Proofs.Ytecclemkfdibbaa.memBytes
open Go Go.Proofs.YtecclemkfdibbaaRL Go.Proofs.Ytecclemkfdibbaa.sp
set_option maxRecDepth 100000
theorem f0 (m : Nat) (v : Int) : lawI Try.prog D 100 3 [.md .u64 m [(0, 64)], .raw (.int .u64 v)] [] = form v := by kernel_rfl
theorem f1 (m : Nat) (v : Int) : lawI Try.prog D 100 3 [.md .u64 m [(1, 64)], .raw (.int .u64 v)] [] = form v := by kernel_rfl
theorem f2 (m : Nat) (v : Int) : lawI Try.prog D 100 3 [.md .u64 m [(2, 64)], .raw (.int .u64 v)] [] = form v := by kernel_rfl
theorem f3 (m : Nat) (v : Int) : lawI Try.prog D 100 3 [.md .u64 m [(3, 64)], .raw (.int .u64 v)] [] = form v := by kernel_rfl
theorem f4 (m : Nat) (v : Int) : lawI Try.prog D 100 3 [.md .u64 m [(4, 64)], .raw (.int .u64 v)] [] = form v := by kernel_rfl
theorem f5 (m : Nat) (v : Int) : lawI Try.prog D 100 3 [.md .u64 m [(5, 64)], .raw (.int .u64 v)] [] = form v := by kernel_rfl
theorem f6 (m : Nat) (v : Int) : lawI Try.prog D 100 3 [.md .u64 m [(6, 64)], .raw (.int .u64 v)] [] = form v := by kernel_rfl
theorem f7 (m : Nat) (v : Int) : lawI Try.prog D 100 3 [.md .u64 m [(7, 64)], .raw (.int .u64 v)] [] = form v := by kernel_rfl
theorem f8 (m : Nat) (v : Int) : lawI Try.prog D 100 3 [.md .u64 m [(8, 64)], .raw (.int .u64 v)] [] = form v := by kernel_rfl
theorem f9 (m : Nat) (v : Int) : lawI Try.prog D 100 3 [.md .u64 m [(9, 64)], .raw (.int .u64 v)] [] = form v := by kernel_rfl
theorem f10 (m : Nat) (v : Int) : lawI Try.prog D 100 3 [.md .u64 m [(10, 64)], .raw (.int .u64 v)] [] = form v := by kernel_rfl
theorem f11 (m : Nat) (v : Int) : lawI Try.prog D 100 3 [.md .u64 m [(11, 64)], .raw (.int .u64 v)] [] = form v := by kernel_rfl
theorem f12 (m : Nat) (v : Int) : lawI Try.prog D 100 3 [.md .u64 m [(12, 64)], .raw (.int .u64 v)] [] = form v := by kernel_rfl
theorem f13 (m : Nat) (v : Int) : lawI Try.prog D 100 3 [.md .u64 m [(13, 64)], .raw (.int .u64 v)] [] = form v := by kernel_rfl
theorem f14 (m : Nat) (v : Int) : lawI Try.prog D 100 3 [.md .u64 m [(14, 64)], .raw (.int .u64 v)] [] = form v := by kernel_rfl
theorem f15 (m : Nat) (v : Int) : lawI Try.prog D 100 3 [.md .u64 m [(15, 64)], .raw (.int .u64 v)] [] = form v := by kernel_rfl
end Go.Proofs.Ytecclemkfdibbaa.memBytes
