/- WinBarriers: for every input the law returns true and leaves its arguments as they were. -/
import Derived.Test.YtllfmafebhifdaaRows
import Derived.Test.YtllfmafebhifdaazWinBarriersPWinBarriers
import Derived.Test.YtllfmafebhifdaazWinBarriersRLRow5
namespace Go.Proofs.Ytllfmafebhifdaa.winBarriers
set_option linter.unusedVariables false
open Go Go.ChangeShapes Go.WideShapes Go.ChangeAt Go.RowKit Go.Proofs.YtllfmafebhifdaaR Go.Proofs.YtllfmafebhifdaaRL
theorem own : ownKnob Try.prog.godebug = none := by kernel_rfl
theorem laidOut : laidOutB Try.prog = true := by kernel_rfl
set_option maxRecDepth 100000 in
theorem lifted (os : Os) (started : os.Started) (H : Type) (enc : TypeId × Value → H) :
    ReturnsInHanded {} Try.checked os 3 .any (Rows.winBarriersSpec.pre6 enc Try.prog Try.f3 Rows.winBarriersRow.domain false) (Rows.winBarriersSpec.post enc Try.prog Try.f3 false true false false) := by
  refine law_of_callB (C := Try.checked) (rt := 4) own started (by kernel_rfl) Try.func3 laidOut (by kernel_rfl) rfl Try.underlying4 rfl (fun ds hds => ?_)
    (ChangeSpec.witness6 (enc := enc) (C := Try.checked) false ⟨#[], #[.slice none 0 0, .int .i64 0, .slice none 0 0, .agg #[.int .u64 0, .int .u64 0, .int .u64 0, .int .u64 0, .int .u64 0, .int .u64 0, .int .u64 0, .int .u64 0, .int .u64 0, .int .u64 0, .int .u64 0, .int .u64 0, .int .u64 0, .int .u64 0, .int .u64 0, .int .u64 0, .int .u64 0, .int .u64 0, .int .u64 0, .int .u64 0, .int .u64 0, .int .u64 0, .int .u64 0, .int .u64 0, .int .u64 0, .int .u64 0, .int .u64 0, .int .u64 0, .int .u64 0, .int .u64 0, .int .u64 0, .int .u64 0, .bool false, .bool false, .bool false, .bool false]], []⟩ 8 (by kernel_rfl) (by kernel_rfl) (by kernel_rfl) (by kernel_rfl)) (aks := aks) (by kernel_rfl) (by kernel_rfl) law_call
  · have hds' : ds.length = 4 := hds
    match ds, hds' with
    | [d0, d1, d2, d3], _ => rfl
theorem over : Rows.winBarriersRow.holds Try.pinned (OpenSpec.ofChange Rows.winBarriersSpec) :=
  OpenClaim.holds_of_wide 3 Try.f3 rfl rfl rfl rfl rfl rfl rfl ⟨rfl, rfl, rfl, rfl, rfl⟩ rfl rfl rfl rfl rfl (by kernel_rfl) Try.func3 (by kernel_rfl)
    (of_decide_eq_true (by kernel_rfl)) (by unfold Func.isWrapper; first | (rw [if_pos (by decide +kernel)]; kernel_rfl) | (rw [if_neg (by decide +kernel)]; exact ⟨rfl, rfl⟩))
    (fun os started H enc _ => lifted os started H enc)
theorem proved : Rows.WinBarriersSaid := over
end Go.Proofs.Ytllfmafebhifdaa.winBarriers
namespace Go.Proofs.Ytllfmafebhifdaa
/-- The row, under a short name, for the claim. -/
theorem winBarriers_holds : Rows.WinBarriersSaid := winBarriers.proved
end Go.Proofs.Ytllfmafebhifdaa
