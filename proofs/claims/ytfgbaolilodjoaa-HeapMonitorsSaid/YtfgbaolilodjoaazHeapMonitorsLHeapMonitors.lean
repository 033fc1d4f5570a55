/- HeapMonitors: for every input the law returns true and leaves its arguments as they were. -/
import Derived.Test.YtfgbaolilodjoaaRows
import Derived.Test.YtfgbaolilodjoaazHeapMonitorsPHeapMonitors
import Derived.Test.YtfgbaolilodjoaazHeapMonitorsRLRow3
namespace Go.Proofs.Ytfgbaolilodjoaa.heapMonitors
set_option linter.unusedVariables false
open Go Go.ChangeShapes Go.WideShapes Go.ChangeAt Go.RowKit Go.Proofs.YtfgbaolilodjoaaR Go.Proofs.YtfgbaolilodjoaaRL
theorem own : ownKnob Try.prog.godebug = none := by kernel_rfl
theorem laidOut : laidOutB Try.prog = true := by kernel_rfl
set_option maxRecDepth 100000 in
theorem lifted (os : Os) (started : os.Started) (H : Type) (enc : TypeId × Value → H) :
    ReturnsInHanded {} Try.checked os 4 .any (Rows.heapMonitorsSpec.pre6 enc Try.prog Try.f4 Rows.heapMonitorsRow.domain false) (Rows.heapMonitorsSpec.post enc Try.prog Try.f4 false true false false) := by
  refine law_of_callS (C := Try.checked) (rt := 4) own started (by kernel_rfl) Try.func4 laidOut (by kernel_rfl) rfl Try.underlying4 rfl (fun ds hds => ?_)
    (ChangeSpec.witness6 (enc := enc) (C := Try.checked) false ⟨#[], #[.slice none 0 0], []⟩ 8 (by kernel_rfl) (by kernel_rfl) (by kernel_rfl) (by kernel_rfl)) (aks := aks) (by kernel_rfl) law_call
  · have hds' : ds.length = 1 := hds
    match ds, hds' with
    | [d0], _ => rfl
theorem over : Rows.heapMonitorsRow.holds Try.pinned (OpenSpec.ofChange Rows.heapMonitorsSpec) :=
  OpenClaim.holds_of_wide 4 Try.f4 rfl rfl rfl rfl rfl rfl rfl ⟨rfl, rfl, rfl, rfl, rfl⟩ rfl rfl rfl rfl rfl (by kernel_rfl) Try.func4 (by kernel_rfl)
    (of_decide_eq_true (by kernel_rfl)) (by unfold Func.isWrapper; first | (rw [if_pos (by decide +kernel)]; kernel_rfl) | (rw [if_neg (by decide +kernel)]; exact ⟨rfl, rfl⟩))
    (fun os started H enc _ => lifted os started H enc)
theorem proved : Rows.HeapMonitorsSaid := over
end Go.Proofs.Ytfgbaolilodjoaa.heapMonitors
namespace Go.Proofs.Ytfgbaolilodjoaa
/-- The row, under a short name, for the claim. -/
theorem heapMonitors_holds : Rows.HeapMonitorsSaid := heapMonitors.proved
end Go.Proofs.Ytfgbaolilodjoaa
