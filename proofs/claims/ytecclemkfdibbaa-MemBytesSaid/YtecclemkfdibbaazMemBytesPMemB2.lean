/- MemBytes: what the law's function computes, place by place. -/
import Derived.Test.YtecclemkfdibbaazMemBytesPMemForm
namespace Go.Proofs.Ytecclemkfdibbaa.memBytes
open Go Go.Proofs.YtecclemkfdibbaaRL Go.Proofs.Ytecclemkfdibbaa.sp
set_option maxRecDepth 100000
theorem f32 (m : Nat) (v : Int) : lawI Try.prog D 100 3 [.md .u64 m [(32, 64)], .raw (.int .u64 v)] [] = form v := by kernel_rfl
theorem f33 (m : Nat) (v : Int) : lawI Try.prog D 100 3 [.md .u64 m [(33, 64)], .raw (.int .u64 v)] [] = form v := by kernel_rfl
theorem f34 (m : Nat) (v : Int) : lawI Try.prog D 100 3 [.md .u64 m [(34, 64)], .raw (.int .u64 v)] [] = form v := by kernel_rfl
theorem f35 (m : Nat) (v : Int) : lawI Try.prog D 100 3 [.md .u64 m [(35, 64)], .raw (.int .u64 v)] [] = form v := by kernel_rfl
theorem f36 (m : Nat) (v : Int) : lawI Try.prog D 100 3 [.md .u64 m [(36, 64)], .raw (.int .u64 v)] [] = form v := by kernel_rfl
theorem f37 (m : Nat) (v : Int) : lawI Try.prog D 100 3 [.md .u64 m [(37, 64)], .raw (.int .u64 v)] [] = form v := by kernel_rfl
theorem f38 (m : Nat) (v : Int) : lawI Try.prog D 100 3 [.md .u64 m [(38, 64)], .raw (.int .u64 v)] [] = form v := by kernel_rfl
theorem f39 (m : Nat) (v : Int) : lawI Try.prog D 100 3 [.md .u64 m [(39, 64)], .raw (.int .u64 v)] [] = form v := by kernel_rfl
theorem f40 (m : Nat) (v : Int) : lawI Try.prog D 100 3 [.md .u64 m [(40, 64)], .raw (.int .u64 v)] [] = form v := by kernel_rfl
theorem f41 (m : Nat) (v : Int) : lawI Try.prog D 100 3 [.md .u64 m [(41, 64)], .raw (.int .u64 v)] [] = form v := by kernel_rfl
theorem f42 (m : Nat) (v : Int) : lawI Try.prog D 100 3 [.md .u64 m [(42, 64)], .raw (.int .u64 v)] [] = form v := by kernel_rfl
theorem f43 (m : Nat) (v : Int) : lawI Try.prog D 100 3 [.md .u64 m [(43, 64)], .raw (.int .u64 v)] [] = form v := by kernel_rfl
theorem f44 (m : Nat) (v : Int) : lawI Try.prog D 100 3 [.md .u64 m [(44, 64)], .raw (.int .u64 v)] [] = form v := by kernel_rfl
theorem f45 (m : Nat) (v : Int) : lawI Try.prog D 100 3 [.md .u64 m [(45, 64)], .raw (.int .u64 v)] [] = form v := by kernel_rfl
theorem f46 (m : Nat) (v : Int) : lawI Try.prog D 100 3 [.md .u64 m [(46, 64)], .raw (.int .u64 v)] [] = form v := by kernel_rfl
theorem f47 (m : Nat) (v : Int) : lawI Try.prog D 100 3 [.md .u64 m [(47, 64)], .raw (.int .u64 v)] [] = form v := by kernel_rfl
end Go.Proofs.Ytecclemkfdibbaa.memBytes
