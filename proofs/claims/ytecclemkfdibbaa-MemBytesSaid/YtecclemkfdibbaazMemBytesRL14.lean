/- RL, fourteenth text: what is known of a function by hand, as a table's line. -/
import Derived.Test.YtecclemkfdibbaazMemBytesRL13
namespace Go.Proofs.YtecclemkfdibbaaRL
open Go
set_option linter.unusedVariables false
/-- A call at no store, run whole; what it leaves behind is forgotten. -/
def runV (P : Program) (D : Dh) (n : Nat) (f : FuncId) (args : List V) : RO := match Nat.blt f P.funcs.size with
  | true => (clo P D n).1 f args [] fun r _ => some (r, [])
  | false => none
theorem runV_ok {P : Program} {D : Dh} (hD : DOk P D) (hn : namesOk P = true) (hm : P.follows .mixedOrders = true) {n : Nat} {f : FuncId} {args : List V} {v : V} (h : runV P D n f args = some (.ret v, [])) : CallOk P f args [] fun r _ => r = .ret v :=
  by
    unfold runV at h
    split at h
    · rename_i hlt
      exact (((clo_sound hD hn hm n).1 _ f args [] _ h).call (by simpa using hlt)).mono fun r s h => by cases h; rfl
    · cases h
/-- A function of flat arguments and a flat result, told by g. -/
def specD (f0 : FuncId) (g : List V → Option V) (D : Dh) : Dh := addD f0 (fun args s => match g args with
  | some v => some (.ret v, s)
  | none => none) D
theorem specD_ok {P : Program} {f0 : FuncId} {g : List V → Option V} {D : Dh} (hD : DOk P D) (hg : ∀ args v, g args = some v → bdL 0 args ∧ v.bd 0 ∧ CallOk P f0 args [] fun r _ => r = .ret v) : DOk P (specD f0 g D) := by
  refine addD_ok hD fun args s r s' h => ?_
  split at h
  · rename_i v hv
    cases h
    obtain ⟨h1, h2, h3⟩ := hg args v hv
    exact h3.anywhere h1 h2
  · cases h
end Go.Proofs.YtecclemkfdibbaaRL
