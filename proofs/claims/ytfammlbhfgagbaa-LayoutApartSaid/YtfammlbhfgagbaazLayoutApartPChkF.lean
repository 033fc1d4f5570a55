/- formulas; printed by fm.py out of fm2.Ytfammlbhfgagbaa.spec. -/
import Derived.Test.YtfammlbhfgagbaazLayoutApartRLT
import Derived.Test.YtfammlbhfgagbaazLayoutApartRLNames
namespace Go.Proofs.Ytfammlbhfgagbaa.chkF
open Go Go.Proofs Go.Proofs.YtfammlbhfgagbaaRL 
set_option linter.unusedVariables false
def chk_f (c h d k q : Int) (K : Res → Prop) : Prop :=
(match decide (c < 1) with
| true => K (Res.ret (V.raw (Value.int IntKind.i64 1)))
| false => (match decide (c > 4) with
 | true => K (Res.ret (V.raw (Value.int IntKind.i64 1)))
 | false => (match decide (h < 0) with
  | true => K (Res.ret (V.raw (Value.int IntKind.i64 1)))
  | false => (match decide (h > 65536) with
   | true => K (Res.ret (V.raw (Value.int IntKind.i64 1)))
   | false => (match decide (d < 1) with
    | true => K (Res.ret (V.raw (Value.int IntKind.i64 1)))
    | false => (match decide (d > 200) with
     | true => K (Res.ret (V.raw (Value.int IntKind.i64 1)))
     | false => (match decide (k < 0) with
      | true => K (Res.ret (V.raw (Value.int IntKind.i64 1)))
      | false => (match decide (k > 65536) with
       | true => K (Res.ret (V.raw (Value.int IntKind.i64 1)))
       | false => (match k.tmod 16 != 0 with
        | true => K (Res.ret (V.raw (Value.int IntKind.i64 1)))
        | false => (match decide (q < 0) with
         | true => K (Res.ret (V.raw (Value.int IntKind.i64 1)))
         | false => (match decide (q > 1048576) with
          | true => K (Res.ret (V.raw (Value.int IntKind.i64 1)))
          | false => K (Res.ret (V.raw (Value.int IntKind.i64 0))))))))))))))
set_option maxRecDepth 1000000 in
theorem chk_eq (c h d k q : Int) (K : Res → Prop) : callG Try.prog noE 100 6 [.agg [.raw (.int .i64 c), .raw (.int .i64 h), .raw (.int .i64 d), .raw (.int .i64 k), .raw (.int .i64 q)]] [] (fun r _ => K r) = chk_f c h d k q  K := by kernel_rfl
end Go.Proofs.Ytfammlbhfgagbaa.chkF
