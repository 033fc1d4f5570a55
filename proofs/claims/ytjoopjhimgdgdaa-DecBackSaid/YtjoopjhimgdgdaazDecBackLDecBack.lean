/- DecBack: for every input the law returns true and leaves its arguments as they were. -/
import Derived.Test.YtjoopjhimgdgdaaRows
import Derived.Test.YtjoopjhimgdgdaazDecBackPDecBack
import Derived.Test.YtjoopjhimgdgdaazDecBackRLRow2
namespace Go.Proofs.Ytjoopjhimgdgdaa.decBack
set_option linter.unusedVariables false
open Go Go.ChangeShapes Go.WideShapes Go.ChangeAt Go.RowKit Go.Proofs.YtjoopjhimgdgdaaR Go.Proofs.YtjoopjhimgdgdaaRL
theorem own : ownKnob Try.prog.godebug = none := by kernel_rfl
theorem laidOut : laidOutB Try.prog = true := by kernel_rfl
set_option maxRecDepth 100000 in
theorem lifted (os : Os) (started : os.Started) (H : Type) (enc : TypeId × Value → H) :
    ReturnsInHanded {} Try.checked os 4 .any (Rows.decBackSpec.pre6 enc Try.prog Try.f4 Rows.decBackRow.domain false) (Rows.decBackSpec.post enc Try.prog Try.f4 false true false false) := by
  refine law_of_call (C := Try.checked) (rt := 4) own started (by kernel_rfl) Try.func4 laidOut (by kernel_rfl) rfl Try.underlying4 rfl (fun ds hds => ?_)
    (ChangeSpec.witness6 (enc := enc) (C := Try.checked) false ⟨#[], #[.agg #[.int .i64 0, .int .i64 0, .int .i64 0, .int .i64 0, .int .i64 0, .int .i64 0, .int .i64 0], .int .u32 0], []⟩ 8 (by kernel_rfl) (by kernel_rfl) (by kernel_rfl) (by kernel_rfl)) (aks := aks) (by kernel_rfl) law_call
  · have hds' : ds.length = 2 := hds
    match ds, hds' with
    | [d0, d1], _ => rfl
theorem over : Rows.decBackRow.holds Try.pinned (OpenSpec.ofChange Rows.decBackSpec) :=
  OpenClaim.holds_of_wide 4 Try.f4 rfl rfl rfl rfl rfl rfl rfl ⟨rfl, rfl, rfl, rfl, rfl⟩ rfl rfl rfl rfl rfl (by kernel_rfl) Try.func4 (by kernel_rfl)
    (of_decide_eq_true (by kernel_rfl)) (by unfold Func.isWrapper; first | (rw [if_pos (by decide +kernel)]; kernel_rfl) | (rw [if_neg (by decide +kernel)]; exact ⟨rfl, rfl⟩))
    (fun os started H enc _ => lifted os started H enc)
theorem proved : Rows.DecBackSaid := over
end Go.Proofs.Ytjoopjhimgdgdaa.decBack
namespace Go.Proofs.Ytjoopjhimgdgdaa
/-- The row, under a short name, for the claim. -/
theorem decBack_holds : Rows.DecBackSaid := decBack.proved
end Go.Proofs.Ytjoopjhimgdgdaa
