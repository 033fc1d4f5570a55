/- SemUndoes: for every input the law returns true and leaves its arguments as they were. -/
import Derived.Test.YtolohpkjpgbahaaRows
import Derived.Test.YtolohpkjpgbahaazSemUndoesPSemUndoes
import Derived.Test.YtolohpkjpgbahaazSemUndoesRLRow
namespace Go.Proofs.Ytolohpkjpgbahaa.semUndoes
set_option linter.unusedVariables false
open Go Go.ChangeShapes Go.WideShapes Go.ChangeAt Go.RowKit Go.Proofs.YtolohpkjpgbahaaR Go.Proofs.YtolohpkjpgbahaaRL
theorem own : ownKnob Try.prog.godebug = none := by kernel_rfl
theorem laidOut : laidOutB Try.prog = true := by kernel_rfl
set_option maxRecDepth 100000 in
theorem lifted (os : Os) (started : os.Started) (H : Type) (enc : TypeId × Value → H) :
    ReturnsInHanded {} Try.checked os 6 .any (Rows.semUndoesSpec.pre6 enc Try.prog Try.f6 Rows.semUndoesRow.domain false) (Rows.semUndoesSpec.post enc Try.prog Try.f6 false true false false) := by
  refine law_flat (C := Try.checked) (rt := 4) own started (by kernel_rfl) Try.func6 laidOut (by kernel_rfl) rfl Try.underlying4 rfl (fun ds hds => ?_)
    (ChangeSpec.witness6 (enc := enc) (C := Try.checked) false ⟨#[], #[.int .u64 0, .int .u64 0, .int .u64 0], []⟩ 8 (by kernel_rfl) (by kernel_rfl) (by kernel_rfl) (by kernel_rfl)) hD names mixed (aks := aks) (n := n) (by kernel_rfl) law_true
  · have hds' : ds.length = 3 := hds
    match ds, hds' with
    | [d0, d1, d2], _ => rfl
theorem over : Rows.semUndoesRow.holds Try.pinned (OpenSpec.ofChange Rows.semUndoesSpec) :=
  OpenClaim.holds_of_wide 6 Try.f6 rfl rfl rfl rfl rfl rfl rfl ⟨rfl, rfl, rfl, rfl, rfl⟩ rfl rfl rfl rfl rfl (by kernel_rfl) Try.func6 (by kernel_rfl)
    (of_decide_eq_true (by kernel_rfl)) (by unfold Func.isWrapper; first | (rw [if_pos (by decide +kernel)]; kernel_rfl) | (rw [if_neg (by decide +kernel)]; exact ⟨rfl, rfl⟩))
    (fun os started H enc _ => lifted os started H enc)
theorem proved : Rows.SemUndoesSaid := over
end Go.Proofs.Ytolohpkjpgbahaa.semUndoes
namespace Go.Proofs.Ytolohpkjpgbahaa
/-- The row, under a short name, for the claim. -/
theorem semUndoes_holds : Rows.SemUndoesSaid := semUndoes.proved
end Go.Proofs.Ytolohpkjpgbahaa
