/- LabJumps: for every input the law returns true and leaves its arguments as they were. -/
import Derived.Test.YtalgegmcllcnmaaRows
import Derived.Test.YtalgegmcllcnmaazLabJumpsPLabJumps
import Derived.Test.YtalgegmcllcnmaazLabJumpsRLRow2
namespace Go.Proofs.Ytalgegmcllcnmaa.labJumps
set_option linter.unusedVariables false
open Go Go.ChangeShapes Go.WideShapes Go.ChangeAt Go.RowKit Go.Proofs.YtalgegmcllcnmaaR Go.Proofs.YtalgegmcllcnmaaRL
theorem own : ownKnob Try.prog.godebug = none := by kernel_rfl
theorem laidOut : laidOutB Try.prog = true := by kernel_rfl
set_option maxRecDepth 100000 in
theorem lifted (os : Os) (started : os.Started) (H : Type) (enc : TypeId × Value → H) :
    ReturnsInHanded {} Try.checked os 5 .any (Rows.labJumpsSpec.pre6 enc Try.prog Try.f5 Rows.labJumpsRow.domain false) (Rows.labJumpsSpec.post enc Try.prog Try.f5 false true false false) := by
  refine law_of_call (C := Try.checked) (rt := 4) own started (by kernel_rfl) Try.func5 laidOut (by kernel_rfl) rfl Try.underlying4 rfl (fun ds hds => ?_)
    (ChangeSpec.witness6 (enc := enc) (C := Try.checked) false ⟨#[], #[.int .i64 0, .int .i64 0, .bool false, .int .i64 0], []⟩ 8 (by kernel_rfl) (by kernel_rfl) (by kernel_rfl) (by kernel_rfl)) (aks := aks) (by kernel_rfl) law_call
  · have hds' : ds.length = 4 := hds
    match ds, hds' with
    | [d0, d1, d2, d3], _ => rfl
theorem over : Rows.labJumpsRow.holds Try.pinned (OpenSpec.ofChange Rows.labJumpsSpec) :=
  OpenClaim.holds_of_wide 5 Try.f5 rfl rfl rfl rfl rfl rfl rfl ⟨rfl, rfl, rfl, rfl, rfl⟩ rfl rfl rfl rfl rfl (by kernel_rfl) Try.func5 (by kernel_rfl)
    (of_decide_eq_true (by kernel_rfl)) (by unfold Func.isWrapper; first | (rw [if_pos (by decide +kernel)]; kernel_rfl) | (rw [if_neg (by decide +kernel)]; exact ⟨rfl, rfl⟩))
    (fun os started H enc _ => lifted os started H enc)
theorem proved : Rows.LabJumpsSaid := over
end Go.Proofs.Ytalgegmcllcnmaa.labJumps
namespace Go.Proofs.Ytalgegmcllcnmaa
/-- The row, under a short name, for the claim. -/
theorem labJumps_holds : Rows.LabJumpsSaid := labJumps.proved
end Go.Proofs.Ytalgegmcllcnmaa
