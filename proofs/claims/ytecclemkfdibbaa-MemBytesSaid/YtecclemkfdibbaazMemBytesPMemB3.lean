/- MemBytes: what the law's function computes, place by place. -/
import Derived.Test.YtecclemkfdibbaazMemBytesPMemForm
namespace Go.Proofs.Ytecclemkfdibbaa.memBytes
open Go Go.Proofs.YtecclemkfdibbaaRL Go.Proofs.Ytecclemkfdibbaa.sp
set_option maxRecDepth 100000
theorem f48 (m : Nat) (v : Int) : lawI Try.prog D 100 3 [.md .u64 m [(48, 64)], .raw (.int .u64 v)] [] = form v := by kernel_rfl
theorem f49 (m : Nat) (v : Int) : lawI Try.prog D 100 3 [.md .u64 m [(49, 64)], .raw (.int .u64 v)] [] = form v := by kernel_rfl
theorem f50 (m : Nat) (v : Int) : lawI Try.prog D 100 3 [.md .u64 m [(50, 64)], .raw (.int .u64 v)] [] = form v := by kernel_rfl
theorem f51 (m : Nat) (v : Int) : lawI Try.prog D 100 3 [.md .u64 m [(51, 64)], .raw (.int .u64 v)] [] = form v := by kernel_rfl
theorem f52 (m : Nat) (v : Int) : lawI Try.prog D 100 3 [.md .u64 m [(52, 64)], .raw (.int .u64 v)] [] = form v := by kernel_rfl
theorem f53 (m : Nat) (v : Int) : lawI Try.prog D 100 3 [.md .u64 m [(53, 64)], .raw (.int .u64 v)] [] = form v := by kernel_rfl
theorem f54 (m : Nat) (v : Int) : lawI Try.prog D 100 3 [.md .u64 m [(54, 64)], .raw (.int .u64 v)] [] = form v := by kernel_rfl
theorem f55 (m : Nat) (v : Int) : lawI Try.prog D 100 3 [.md .u64 m [(55, 64)], .raw (.int .u64 v)] [] = form v := by kernel_rfl
theorem f56 (m : Nat) (v : Int) : lawI Try.prog D 100 3 [.md .u64 m [(56, 64)], .raw (.int .u64 v)] [] = form v := by kernel_rfl
theorem f57 (m : Nat) (v : Int) : lawI Try.prog D 100 3 [.md .u64 m [(57, 64)], .raw (.int .u64 v)] [] = form v := by kernel_rfl
theorem f58 (m : Nat) (v : Int) : lawI Try.prog D 100 3 [.md .u64 m [(58, 64)], .raw (.int .u64 v)] [] = form v := by kernel_rfl
theorem f59 (m : Nat) (v : Int) : lawI Try.prog D 100 3 [.md .u64 m [(59, 64)], .raw (.int .u64 v)] [] = form v := by kernel_rfl
theorem f60 (m : Nat) (v : Int) : lawI Try.prog D 100 3 [.md .u64 m [(60, 64)], .raw (.int .u64 v)] [] = form v := by kernel_rfl
theorem f61 (m : Nat) (v : Int) : lawI Try.prog D 100 3 [.md .u64 m [(61, 64)], .raw (.int .u64 v)] [] = form v := by kernel_rfl
theorem f62 (m : Nat) (v : Int) : lawI Try.prog D 100 3 [.md .u64 m [(62, 64)], .raw (.int .u64 v)] [] = form v := by kernel_rfl
theorem f63 (m : Nat) (v : Int) : lawI Try.prog D 100 3 [.md .u64 m [(63, 64)], .raw (.int .u64 v)] [] = form v := by kernel_rfl
end Go.Proofs.Ytecclemkfdibbaa.memBytes
