/- formulas; printed by fm.py out of Dw.spec. -/
import Derived.Test.YtjoopjhimgdgdaazDecWordsIRefD
namespace Go.Proofs.Ytjoopjhimgdgdaa.decLaws
open Go Go.Proofs Go.Proofs.YtjoopjhimgdgdaaRL  Go.Proofs.Ytjoopjhimgdgdaa.isa
set_option linter.unusedVariables false
noncomputable def ED : Eh := addE 7 decA (addE 8 decA noE)
def words_f (w : Int) (K : Res → Prop) : Prop :=
(match decide (0 ≤ w ∧ w < 4294967296) with
| true => (match decide (0 ≤ w ∧ w < 4294967296) with
 | true => (match (decI w).op == (decI w).op && ((decI w).d == (decI w).d && ((decI w).n == (decI w).n && ((decI w).m == (decI w).m && ((decI w).a == (decI w).a && ((decI w).c == (decI w).c && ((decI w).im == (decI w).im && true)))))) with
  | true => (match decide (0 ≤ w ∧ w < 4294967296) with
   | true => (match decide (0 ≤ w ∧ w < 4294967296) with
    | true => K (Res.ret (V.raw (Value.bool (((decI w).op != 0) == ((decI w).op != 0)))))
    | false => False)
   | false => False)
  | false => K (Res.ret (V.raw (Value.bool false))))
 | false => False)
| false => False)
set_option maxRecDepth 1000000 in
theorem words_eq (w : Int) (K : Res → Prop) : callG Try.prog ED 100 3 [.raw (.int .u32 w)] [] (fun r _ => K r) = words_f w  K := by kernel_rfl
end Go.Proofs.Ytjoopjhimgdgdaa.decLaws
