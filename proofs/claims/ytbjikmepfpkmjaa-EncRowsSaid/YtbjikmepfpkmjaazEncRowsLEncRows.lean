/- EncRows: for every input the law returns true and leaves its arguments as they were. -/
import Derived.Test.YtbjikmepfpkmjaaRows
import Derived.Test.YtbjikmepfpkmjaazEncRowsPEncRows
import Derived.Test.YtbjikmepfpkmjaazEncRowsRLRow3
namespace Go.Proofs.Ytbjikmepfpkmjaa.encRows
set_option linter.unusedVariables false
open Go Go.ChangeShapes Go.WideShapes Go.ChangeAt Go.RowKit Go.Proofs.YtbjikmepfpkmjaaR Go.Proofs.YtbjikmepfpkmjaaRL
theorem own : ownKnob Try.prog.godebug = none := by kernel_rfl
theorem laidOut : laidOutB Try.prog = true := by kernel_rfl
set_option maxRecDepth 100000 in
theorem lifted (os : Os) (started : os.Started) (H : Type) (enc : TypeId × Value → H) :
    ReturnsInHanded {} Try.checked os 5 .any (Rows.encRowsSpec.pre6 enc Try.prog Try.f5 Rows.encRowsRow.domain false) (Rows.encRowsSpec.post enc Try.prog Try.f5 false true false false) := by
  refine law_of_callS (C := Try.checked) (rt := 4) own started (by kernel_rfl) Try.func5 laidOut (by kernel_rfl) rfl Try.underlying4 rfl (fun ds hds => ?_)
    (ChangeSpec.witness6 (enc := enc) (C := Try.checked) false ⟨#[], #[.slice none 0 0], []⟩ 8 (by kernel_rfl) (by kernel_rfl) (by kernel_rfl) (by kernel_rfl)) (aks := aks) (by kernel_rfl) law_call
  · have hds' : ds.length = 1 := hds
    match ds, hds' with
    | [d0], _ => rfl
theorem over : Rows.encRowsRow.holds Try.pinned (OpenSpec.ofChange Rows.encRowsSpec) :=
  OpenClaim.holds_of_wide 5 Try.f5 rfl rfl rfl rfl rfl rfl rfl ⟨rfl, rfl, rfl, rfl, rfl⟩ rfl rfl rfl rfl rfl (by kernel_rfl) Try.func5 (by kernel_rfl)
    (of_decide_eq_true (by kernel_rfl)) (by unfold Func.isWrapper; first | (rw [if_pos (by decide +kernel)]; kernel_rfl) | (rw [if_neg (by decide +kernel)]; exact ⟨rfl, rfl⟩))
    (fun os started H enc _ => lifted os started H enc)
theorem proved : Rows.EncRowsSaid := over
end Go.Proofs.Ytbjikmepfpkmjaa.encRows
namespace Go.Proofs.Ytbjikmepfpkmjaa
/-- The row, under a short name, for the claim. -/
theorem encRows_holds : Rows.EncRowsSaid := encRows.proved
end Go.Proofs.Ytbjikmepfpkmjaa
