/- SemParts: for every input of bulk at most 1048576 the law returns true and leaves its arguments as they were. -/
import Derived.Test.YtolohpkjpgbahaaRows
import Derived.Test.YtolohpkjpgbahaazSemPartsPSemParts
import Derived.Test.YtolohpkjpgbahaazSemPartsRL15
import Derived.Deep.DeepHandedRow
import Derived.Lib.LaidTab
namespace Go.Proofs.Ytolohpkjpgbahaa.semParts
set_option linter.unusedVariables false
open Go Go.ChangeShapes Go.WideShapes Go.ChangeAt Go.RowKit Go.Proofs.YtolohpkjpgbahaaR Go.Proofs.YtolohpkjpgbahaaRL
theorem own : ownKnob Try.prog.godebug = none := by kernel_rfl
theorem laidOut : laidOutB Try.prog = true := by kernel_rfl
noncomputable def argsW : Array Value := #[.int .u64 0, .int .i64 0, .agg #[.int .u64 0, .int .u64 0, .int .u64 0, .int .u64 0, .int .u64 0, .int .u64 0, .int .u64 0, .int .u64 0, .int .u64 0, .int .u64 0, .int .u64 0, .int .u64 0, .int .u64 0, .int .u64 0, .int .u64 0, .int .u64 0, .int .u64 0, .int .u64 0, .int .u64 0, .int .u64 0, .int .u64 0, .int .u64 0, .int .u64 0, .int .u64 0, .int .u64 0, .int .u64 0, .int .u64 0, .int .u64 0, .int .u64 0, .int .u64 0, .int .u64 0, .int .u64 0, .bool false, .bool false, .bool false, .bool false], .int .i64 0]
noncomputable def world0 (os : Os) : World := World.holding Try.prog os ⟨#[], #[], []⟩
theorem laid_met (os : Os) : laidMet Try.prog Rows.semPartsUptoRow.laid ((world0 os).forCall (fun _ _ => 0) ⟨#[], argsW, []⟩).memory := laidMet_of_run' 8 (by kernel_rfl) (by kernel_rfl)
theorem reads (os : Os) {H : Type} (enc : TypeId × Value → H) : ∃ places, DataW.whole enc Try.prog ((world0 os).forCall (fun _ _ => 0) ⟨#[], argsW, []⟩).memory Try.f5.params.toList Rows.semPartsSpec.vars false (argsW : Array Value).toList 8 = some ([.lit (.int .u64 0), .lit (.int .i64 0), .agg [.agg [.lit (.int .u64 0), .lit (.int .u64 0), .lit (.int .u64 0), .lit (.int .u64 0), .lit (.int .u64 0), .lit (.int .u64 0), .lit (.int .u64 0), .lit (.int .u64 0), .lit (.int .u64 0), .lit (.int .u64 0), .lit (.int .u64 0), .lit (.int .u64 0), .lit (.int .u64 0), .lit (.int .u64 0), .lit (.int .u64 0), .lit (.int .u64 0), .lit (.int .u64 0), .lit (.int .u64 0), .lit (.int .u64 0), .lit (.int .u64 0), .lit (.int .u64 0), .lit (.int .u64 0), .lit (.int .u64 0), .lit (.int .u64 0), .lit (.int .u64 0), .lit (.int .u64 0), .lit (.int .u64 0), .lit (.int .u64 0), .lit (.int .u64 0), .lit (.int .u64 0), .lit (.int .u64 0)], .lit (.int .u64 0), .lit (.bool false), .lit (.bool false), .lit (.bool false), .lit (.bool false)], .lit (.int .i64 0)], [], places) := ⟨[], by kernel_rfl⟩
set_option maxRecDepth 100000 in
theorem lifted (os : Os) (started : os.Started) (H : Type) (enc : TypeId × Value → H) (F : Stop.Interp) :
    ReturnsInHanded {} Try.checked os 5 .any ((Rows.OpenSpec.upto Rows.semPartsSpec).preRow enc Try.prog Try.f5 Rows.semPartsUptoRow.domain false Rows.semPartsUptoRow.laid) (((Rows.OpenSpec.upto Rows.semPartsSpec).at F).post enc Try.prog Try.f5 false true false false) := by
  obtain ⟨places, hx⟩ := reads os enc
  have hwit : (Rows.OpenSpec.upto Rows.semPartsSpec).preRow enc Try.checked.prog Try.f5 [] false Rows.semPartsUptoRow.laid ((world0 os).forCall (fun _ _ => 0) ⟨#[], argsW, []⟩).memory argsW :=
    OpenSpec.preRow_of_cond 8 hx (by kernel_rfl) (fun k hk => by cases hk; kernel_rfl) (by kernel_rfl) (laid_met os)
  refine law_of_call_row (C := Try.checked) (S := (Rows.OpenSpec.upto Rows.semPartsSpec)) (s := Rows.semPartsSpec) (rt := 4) own started (by kernel_rfl) Try.func5 laidOut (by kernel_rfl) rfl Try.underlying4 rfl rfl (by kernel_rfl) rfl (fun ds hds => ?_)
    (witness_row_at (enc := enc) (C := Try.checked) false (world0 os) argsW rfl (by kernel_rfl) (by kernel_rfl) (by kernel_rfl) hwit) (aks := aks) (by kernel_rfl) law_call
  · have hds' : ds.length = 4 := hds
    match ds, hds' with
    | [d0, d1, d2, d3], _ => rfl
theorem over : Rows.SemPartsUptoSaid :=
  OpenClaim.holds_of_cond 5 Try.f5 rfl rfl rfl rfl rfl rfl rfl ⟨rfl, rfl, rfl, rfl, rfl⟩ rfl rfl rfl rfl rfl (by kernel_rfl) Try.func5 (by kernel_rfl)
    (of_decide_eq_true (by kernel_rfl)) (by unfold Func.isWrapper; first | (rw [if_pos (by decide +kernel)]; kernel_rfl) | (rw [if_neg (by decide +kernel)]; exact ⟨rfl, rfl⟩))
    (fun os started H enc _ F => by rw [OpenClaim.pre_eq_preRow]; exact lifted os started H enc F)
theorem proved : Rows.SemPartsUptoSaid := over
end Go.Proofs.Ytolohpkjpgbahaa.semParts
namespace Go.Proofs.Ytolohpkjpgbahaa
/-- The row, under a short name, for the claim. -/
theorem semParts_holds : Rows.SemPartsUptoSaid := semParts.proved
end Go.Proofs.Ytolohpkjpgbahaa
