/- Parts of the proof, one behind the other. -/
import Derived.Test.YtalgegmcllcnmaazLabJumpsRLRow2
import Derived.Test.YtalgegmcllcnmaazLabJumpsRLK
section
/- RL and the rows of laws: arguments that are slices of flat elements. -/
namespace Go.Proofs.YtalgegmcllcnmaaRL
open Go Go.ChangeShapes Go.WideShapes Go.ChangeAt Go.RowKit Go.Deep Go.Proofs.YtalgegmcllcnmaaR
set_option linter.unusedVariables false
set_option linter.unusedSimpArgs false
/-- An argument: flat, or a slice whose elements have these cells. -/
inductive AS where
  | flat (a : AK)
  | sl (cs : List CK)
section
variable {H : Type} {enc : TypeId × Value → H} {P : Program} {W : World} {base : Nat}
end
end Go.Proofs.YtalgegmcllcnmaaRL
end
section
/- RL and the rows of laws: slices of flat elements among the arguments, told by columns. -/
namespace Go.Proofs.YtalgegmcllcnmaaRL
open Go
set_option linter.unusedVariables false
set_option linter.unusedSimpArgs false
/-- The same places, told otherwise. -/
theorem CallOk.conv {P : Program} {f : FuncId} {args args' : List V} {s s' : Sto} {K : Res → Sto → Prop} (hl : s'.length = s.length) (hr : ∀ ρ w, Rep ρ s w → sbd s → bdL s.length args → Rep ρ s' w ∧ sbd s' ∧ bdL s'.length args' ∧ absL ρ args' = absL ρ args) (ho : s.map Ent.isOwn = s'.map Ent.isOwn)
    (h : CallOk P f args' s' K) : CallOk P f args s K := by
  refine ⟨h.plain, fun ρ w h1 h2 h3 => ?_⟩
  obtain ⟨q1, q2, q3, q4⟩ := hr ρ w h1 h2 h3
  rw [← q4]
  refine (h.run ρ w q1 q2 q3).mono ?_
  rintro e w' ⟨r, s2, ρ', e1, e2, e3, e4, e5, e6⟩
  exact ⟨r, s2, ρ', e1, e2, e3, e4.conv ho.symm rfl, e5, e6⟩
end Go.Proofs.YtalgegmcllcnmaaRL
end
