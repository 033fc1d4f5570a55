/- LayoutApart: for every input the law returns true and leaves its arguments as they were. -/
import Derived.Test.YtfammlbhfgagbaaRows
import Derived.Test.YtfammlbhfgagbaazLayoutApartPLayoutApart
import Derived.Test.YtfammlbhfgagbaazLayoutApartRLRow2
namespace Go.Proofs.Ytfammlbhfgagbaa.layoutApart
set_option linter.unusedVariables false
open Go Go.ChangeShapes Go.WideShapes Go.ChangeAt Go.RowKit Go.Proofs.YtfammlbhfgagbaaR Go.Proofs.YtfammlbhfgagbaaRL
theorem own : ownKnob Try.prog.godebug = none := by kernel_rfl
theorem laidOut : laidOutB Try.prog = true := by kernel_rfl
set_option maxRecDepth 100000 in
theorem lifted (os : Os) (started : os.Started) (H : Type) (enc : TypeId × Value → H) :
    ReturnsInHanded {} Try.checked os 3 .any (Rows.layoutApartSpec.pre6 enc Try.prog Try.f3 Rows.layoutApartRow.domain false) (Rows.layoutApartSpec.post enc Try.prog Try.f3 false true false false) := by
  refine law_of_call (C := Try.checked) (rt := 4) own started (by kernel_rfl) Try.func3 laidOut (by kernel_rfl) rfl Try.underlying4 rfl (fun ds hds => ?_)
    (ChangeSpec.witness6 (enc := enc) (C := Try.checked) false ⟨#[], #[.agg #[.int .i64 0, .int .i64 0, .int .i64 0, .int .i64 0, .int .i64 0], .int .u64 0, .int .i64 0, .int .i64 0], []⟩ 8 (by kernel_rfl) (by kernel_rfl) (by kernel_rfl) (by kernel_rfl)) (aks := aks) (by kernel_rfl) law_call
  · have hds' : ds.length = 4 := hds
    match ds, hds' with
    | [d0, d1, d2, d3], _ => rfl
theorem over : Rows.layoutApartRow.holds Try.pinned (OpenSpec.ofChange Rows.layoutApartSpec) :=
  OpenClaim.holds_of_wide 3 Try.f3 rfl rfl rfl rfl rfl rfl rfl ⟨rfl, rfl, rfl, rfl, rfl⟩ rfl rfl rfl rfl rfl (by kernel_rfl) Try.func3 (by kernel_rfl)
    (of_decide_eq_true (by kernel_rfl)) (by unfold Func.isWrapper; first | (rw [if_pos (by decide +kernel)]; kernel_rfl) | (rw [if_neg (by decide +kernel)]; exact ⟨rfl, rfl⟩))
    (fun os started H enc _ => lifted os started H enc)
theorem proved : Rows.LayoutApartSaid := over
end Go.Proofs.Ytfammlbhfgagbaa.layoutApart
namespace Go.Proofs.Ytfammlbhfgagbaa
/-- The row, under a short name, for the claim. -/
theorem layoutApart_holds : Rows.LayoutApartSaid := layoutApart.proved
end Go.Proofs.Ytfammlbhfgagbaa
