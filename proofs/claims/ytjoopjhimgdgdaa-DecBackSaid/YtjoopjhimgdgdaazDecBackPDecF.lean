/- formulas; printed by fm.py out of Dw.spec. -/
import Derived.Test.YtjoopjhimgdgdaazDecBackIRefD
namespace Go.Proofs.Ytjoopjhimgdgdaa.decLaws
open Go Go.Proofs Go.Proofs.YtjoopjhimgdgdaaRL  Go.Proofs.Ytjoopjhimgdgdaa.isa
set_option linter.unusedVariables false
noncomputable def EB : Eh := addE 7 decA (specE 11 chkG (specE 12 wordG noE))

def words_f (w : Int) (K : Res → Prop) : Prop :=
(match decide (0 ≤ w ∧ w < 4294967296) with
| true => (match decide (0 ≤ w ∧ w < 4294967296) with
 | true => (match (decI w).op == (decI w).op && ((decI w).d == (decI w).d && ((decI w).n == (decI w).n && ((decI w).m == (decI w).m && ((decI w).a == (decI w).a && ((decI w).c == (decI w).c && ((decI w).im == (decI w).im && true)))))) with
  | true => (match decide (0 ≤ w ∧ w < 4294967296) with
   | true => (match decide (0 ≤ w ∧ w < 4294967296) with
    | true => K (Res.ret (V.raw (Value.bool (((decI w).op != 0) == ((decI w).op != 0)))))
    | false => False)
   | false => False)
  | false => K (Res.ret (V.raw (Value.bool false))))
 | false => False)
| false => False)
def back_f (op d n m a c im w : Int) (K : Res → Prop) : Prop :=
(match chkV op d n m a c im == 0 with
| true => (match chkV op d n m a c im != 0 with
 | true => K (Res.ret (V.raw (Value.bool false)))
 | false => (match decide (0 ≤ wordV op d n m a c im ∧ wordV op d n m a c im < 4294967296) with
  | true => (match !((decI (wordV op d n m a c im)).op == op && ((decI (wordV op d n m a c im)).d == d && ((decI (wordV op d n m a c im)).n == n && ((decI (wordV op d n m a c im)).m == m && ((decI (wordV op d n m a c im)).a == a && ((decI (wordV op d n m a c im)).c == c && ((decI (wordV op d n m a c im)).im == im && true))))))) with
   | true => K (Res.ret (V.raw (Value.bool false)))
   | false => (match decide (0 ≤ wordV op d n m a c im ∧ wordV op d n m a c im < 4294967296) with
    | true => (match !((decI (wordV op d n m a c im)).op != 0) == (op != 0) with
     | true => K (Res.ret (V.raw (Value.bool false)))
     | false => (match decide (0 ≤ w ∧ w < 4294967296) with
      | true => (match chkV (decI w).op (decI w).d (decI w).n (decI w).m (decI w).a (decI w).c (decI w).im != 0 with
       | true => K (Res.ret (V.raw (Value.bool false)))
       | false => (match decide (0 ≤ w ∧ w < 4294967296) with
        | true => (match !((decI w).op != 0) == ((decI w).op != 0) with
         | true => K (Res.ret (V.raw (Value.bool false)))
         | false => (match chkV (decI w).op (decI w).d (decI w).n (decI w).m (decI w).a (decI w).c (decI w).im == 0 with
          | true => (match wordV (decI w).op (decI w).d (decI w).n (decI w).m (decI w).a (decI w).c (decI w).im == w with
           | true => K (Res.ret (V.raw (Value.bool true)))
           | false => (match (decI w).op == 0 with
            | true => K (Res.ret (V.raw (Value.bool (IntKind.u32.wrap (decI w).im == bits BinOp.and IntKind.u32 w 65535))))
            | false => K (Res.ret (V.raw (Value.bool false)))))
          | false => K (Res.ret (V.raw (Value.bool false)))))
        | false => False))
      | false => False))
    | false => False))
  | false => False))
| false => (match decide (0 ≤ w ∧ w < 4294967296) with
 | true => (match chkV (decI w).op (decI w).d (decI w).n (decI w).m (decI w).a (decI w).c (decI w).im != 0 with
  | true => K (Res.ret (V.raw (Value.bool false)))
  | false => (match decide (0 ≤ w ∧ w < 4294967296) with
   | true => (match !((decI w).op != 0) == ((decI w).op != 0) with
    | true => K (Res.ret (V.raw (Value.bool false)))
    | false => (match chkV (decI w).op (decI w).d (decI w).n (decI w).m (decI w).a (decI w).c (decI w).im == 0 with
     | true => (match wordV (decI w).op (decI w).d (decI w).n (decI w).m (decI w).a (decI w).c (decI w).im == w with
      | true => K (Res.ret (V.raw (Value.bool true)))
      | false => (match (decI w).op == 0 with
       | true => K (Res.ret (V.raw (Value.bool (IntKind.u32.wrap (decI w).im == bits BinOp.and IntKind.u32 w 65535))))
       | false => K (Res.ret (V.raw (Value.bool false)))))
     | false => K (Res.ret (V.raw (Value.bool false)))))
   | false => False))
 | false => False))
set_option maxRecDepth 1000000 in
theorem back_eq (op d n m a c im w : Int) (K : Res → Prop) : callG Try.prog EB 100 4 [insV op d n m a c im, .raw (.int .u32 w)] [] (fun r _ => K r) = back_f op d n m a c im w  K := by kernel_rfl
end Go.Proofs.Ytjoopjhimgdgdaa.decLaws
