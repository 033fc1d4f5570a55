/- formulas; printed by fm.py out of fm2.Ytfammlbhfgagbaa.spec. -/
import Derived.Test.YtfammlbhfgagbaazLayoutApartRLRow4
import Derived.Test.YtfammlbhfgagbaazLayoutApartPTab2
namespace Go.Proofs.Ytfammlbhfgagbaa.law2F
open Go Go.Proofs Go.Proofs.YtfammlbhfgagbaaRL  Go.Proofs.Ytfammlbhfgagbaa.la
set_option linter.unusedVariables false
def pA2 : List Nat := [0,0,0,0,0,0,0]
def S (c h d k q addr o cl s1 s2 s3 : Int) (b : Bool) : St := ⟨105, [(1, u64 addr), (2, i64 o), (3, i64 cl), (4, .ptr 0 0), (9, .sl 1 0 5 5), (13, .raw (.bool b))], [.own [i64 c, i64 h, i64 d, i64 k, i64 q] 23, .own [u64 65536, u64 262144, .raw (.bool false), .raw (.bool true), u64 524288, u64 262144, .raw (.bool true), .raw (.bool false), u64 1048576, u64 s1, .raw (.bool true), .raw (.bool false), u64 2097152, u64 s2, .raw (.bool true), .raw (.bool false), u64 3145728, u64 s3, .raw (.bool true), .raw (.bool true)] 35]⟩

def post_f (c h d k q addr o cl s1 s2 s3 : Int) (b : Bool) : Prop :=
(match !b == (whichV c h d k q addr != 0) with
| true => Res.ret (one1 [ofVal (Value.bool false)]) = Res.ret (V.raw (Value.bool true))
| false => (match decide (IntKind.u64.wrap (1048576 + s1) > 2097152) with
 | true => Res.ret (one1 [ofVal (Value.bool false)]) = Res.ret (V.raw (Value.bool true))
 | false => (match decide (IntKind.u64.wrap (2097152 + s2) > 3145728) with
  | true => Res.ret (one1 [ofVal (Value.bool false)]) = Res.ret (V.raw (Value.bool true))
  | false => (match decide (o ≥ 1) with
   | true => (match decide (o ≤ 65536) with
    | true => (match objV (addrV o) != o with
     | true => Res.ret (one1 [ofVal (Value.bool false)]) = Res.ret (V.raw (Value.bool true))
     | false => (match kindV cl == 0 with
      | true => Res.ret (one1 [ofVal (Value.bool true)]) = Res.ret (V.raw (Value.bool true))
      | false => Res.ret (one1 [V.raw (Value.bool (classV (kindV cl) == cl))]) = Res.ret (V.raw (Value.bool true))))
    | false => (match kindV cl == 0 with
     | true => Res.ret (one1 [ofVal (Value.bool true)]) = Res.ret (V.raw (Value.bool true))
     | false => Res.ret (one1 [V.raw (Value.bool (classV (kindV cl) == cl))]) = Res.ret (V.raw (Value.bool true))))
   | false => (match kindV cl == 0 with
    | true => Res.ret (one1 [ofVal (Value.bool true)]) = Res.ret (V.raw (Value.bool true))
    | false => Res.ret (one1 [V.raw (Value.bool (classV (kindV cl) == cl))]) = Res.ret (V.raw (Value.bool true)))))))
set_option maxRecDepth 1000000 in
theorem post_eq (c h d k q addr o cl s1 s2 s3 : Int) (b : Bool) : evG Try.prog EL 100 (subAt pA2 (codeOf Try.prog 3)) (S c h d k q addr o cl s1 s2 s3 b) (bodyK False Try.prog (funcOf Try.prog 3) fun r _ => r = .ret (.raw (.bool true))) = post_f c h d k q addr o cl s1 s2 s3  b := by kernel_rfl
end Go.Proofs.Ytfammlbhfgagbaa.law2F
