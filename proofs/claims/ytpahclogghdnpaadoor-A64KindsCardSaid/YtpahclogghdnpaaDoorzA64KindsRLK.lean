/- RL: loops by rounds that are told by what changes from one to the next. -/
import Derived.Test.YtpahclogghdnpaaDoorzA64KindsRLC
namespace Go.Proofs.YtpahclogghdnpaaDoorRL
open Go
set_option linter.unusedVariables false
set_option linter.unusedSimpArgs false
section
variable {P : Program} {b : Nat} {c : Code} {K : Ex → St → Prop}
/-- What a round may come to. -/
def RK {α : Type} (b : Nat) (S : α → St) (I : α → Prop) (μ : α → Nat) (x : α) (K : Ex → St → Prop) : Ex → St → Prop := fun e st => match e with
  | .normal => ∃ y, Tells b st (S y) ∧ I y ∧ μ y < μ x
  | .panic _ => False
  | e => K e st
theorem RK.go {α : Type} {S : α → St} {I : α → Prop} {μ : α → Nat} {x y : α} {K : Ex → St → Prop} {st : St} (he : st = S y) (hi : I y) (hm : μ y < μ x) : RK b S I μ x K .normal st := ⟨y, by subst he; exact Tells.refl _ _, hi, hm⟩
end
end Go.Proofs.YtpahclogghdnpaaDoorRL
