/- DecRows: for every input the law returns true and leaves its arguments as they were. -/
import Derived.Test.YtjoopjhimgdgdaaRows
import Derived.Test.YtjoopjhimgdgdaazDecRowsPDecRows
import Derived.Test.YtjoopjhimgdgdaazDecRowsRLRow3
namespace Go.Proofs.Ytjoopjhimgdgdaa.decRows
set_option linter.unusedVariables false
open Go Go.ChangeShapes Go.WideShapes Go.ChangeAt Go.RowKit Go.Proofs.YtjoopjhimgdgdaaR Go.Proofs.YtjoopjhimgdgdaaRL
theorem own : ownKnob Try.prog.godebug = none := by kernel_rfl
theorem laidOut : laidOutB Try.prog = true := by kernel_rfl
set_option maxRecDepth 100000 in
theorem lifted (os : Os) (started : os.Started) (H : Type) (enc : TypeId × Value → H) :
    ReturnsInHanded {} Try.checked os 5 .any (Rows.decRowsSpec.pre6 enc Try.prog Try.f5 Rows.decRowsRow.domain false) (Rows.decRowsSpec.post enc Try.prog Try.f5 false true false false) := by
  refine law_of_callS (C := Try.checked) (rt := 4) own started (by kernel_rfl) Try.func5 laidOut (by kernel_rfl) rfl Try.underlying4 rfl (fun ds hds => ?_)
    (ChangeSpec.witness6 (enc := enc) (C := Try.checked) false ⟨#[], #[.slice none 0 0, .slice none 0 0, .int .i64 0], []⟩ 8 (by kernel_rfl) (by kernel_rfl) (by kernel_rfl) (by kernel_rfl)) (aks := aks) (by kernel_rfl) law_call
  · have hds' : ds.length = 3 := hds
    match ds, hds' with
    | [d0, d1, d2], _ => rfl
theorem over : Rows.decRowsRow.holds Try.pinned (OpenSpec.ofChange Rows.decRowsSpec) :=
  OpenClaim.holds_of_wide 5 Try.f5 rfl rfl rfl rfl rfl rfl rfl ⟨rfl, rfl, rfl, rfl, rfl⟩ rfl rfl rfl rfl rfl (by kernel_rfl) Try.func5 (by kernel_rfl)
    (of_decide_eq_true (by kernel_rfl)) (by unfold Func.isWrapper; first | (rw [if_pos (by decide +kernel)]; kernel_rfl) | (rw [if_neg (by decide +kernel)]; exact ⟨rfl, rfl⟩))
    (fun os started H enc _ => lifted os started H enc)
theorem proved : Rows.DecRowsSaid := over
end Go.Proofs.Ytjoopjhimgdgdaa.decRows
namespace Go.Proofs.Ytjoopjhimgdgdaa
/-- The row, under a short name, for the claim. -/
theorem decRows_holds : Rows.DecRowsSaid := decRows.proved
end Go.Proofs.Ytjoopjhimgdgdaa
