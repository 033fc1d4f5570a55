/- CacheOwn: for every input the law returns true and leaves its arguments as they were. -/
import Derived.Test.YtaefmkabflkpjaaRows
import Derived.Test.YtaefmkabflkpjaazCacheOwnPCacheOwn
import Derived.Test.YtaefmkabflkpjaazCacheOwnRLRow3
namespace Go.Proofs.Ytaefmkabflkpjaa.cacheOwn
set_option linter.unusedVariables false
open Go Go.ChangeShapes Go.WideShapes Go.ChangeAt Go.RowKit Go.Proofs.YtaefmkabflkpjaaR Go.Proofs.YtaefmkabflkpjaaRL
theorem own : ownKnob Try.prog.godebug = none := by kernel_rfl
theorem laidOut : laidOutB Try.prog = true := by kernel_rfl
set_option maxRecDepth 100000 in
theorem lifted (os : Os) (started : os.Started) (H : Type) (enc : TypeId × Value → H) :
    ReturnsInHanded {} Try.checked os 4 .any (Rows.cacheOwnSpec.pre6 enc Try.prog Try.f4 Rows.cacheOwnRow.domain false) (Rows.cacheOwnSpec.post enc Try.prog Try.f4 false true false false) := by
  refine law_of_callS (C := Try.checked) (rt := 4) own started (by kernel_rfl) Try.func4 laidOut (by kernel_rfl) rfl Try.underlying4 rfl (fun ds hds => ?_)
    (ChangeSpec.witness6 (enc := enc) (C := Try.checked) false ⟨#[], #[.slice none 0 0, .slice none 0 0], []⟩ 8 (by kernel_rfl) (by kernel_rfl) (by kernel_rfl) (by kernel_rfl)) (aks := aks) (by kernel_rfl) law_call
  · have hds' : ds.length = 2 := hds
    match ds, hds' with
    | [d0, d1], _ => rfl
theorem over : Rows.cacheOwnRow.holds Try.pinned (OpenSpec.ofChange Rows.cacheOwnSpec) :=
  OpenClaim.holds_of_wide 4 Try.f4 rfl rfl rfl rfl rfl rfl rfl ⟨rfl, rfl, rfl, rfl, rfl⟩ rfl rfl rfl rfl rfl (by kernel_rfl) Try.func4 (by kernel_rfl)
    (of_decide_eq_true (by kernel_rfl)) (by unfold Func.isWrapper; first | (rw [if_pos (by decide +kernel)]; kernel_rfl) | (rw [if_neg (by decide +kernel)]; exact ⟨rfl, rfl⟩))
    (fun os started H enc _ => lifted os started H enc)
theorem proved : Rows.CacheOwnSaid := over
end Go.Proofs.Ytaefmkabflkpjaa.cacheOwn
namespace Go.Proofs.Ytaefmkabflkpjaa
/-- The row, under a short name, for the claim. -/
theorem cacheOwn_holds : Rows.CacheOwnSaid := cacheOwn.proved
end Go.Proofs.Ytaefmkabflkpjaa
