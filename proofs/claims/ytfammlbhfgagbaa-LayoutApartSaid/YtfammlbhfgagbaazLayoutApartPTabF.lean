/- formulas; printed by fm.py out of fm2.Ytfammlbhfgagbaa.spec. -/
import Derived.Test.YtfammlbhfgagbaazLayoutApartRLRow4
import Derived.Test.YtfammlbhfgagbaazLayoutApartPChk2
namespace Go.Proofs.Ytfammlbhfgagbaa.tabF
open Go Go.Proofs Go.Proofs.YtfammlbhfgagbaaRL  Go.Proofs.Ytfammlbhfgagbaa.la
set_option linter.unusedVariables false
def has_f (at_ sz addr n : Int) (K : Res → Prop) : Prop :=
(match decide (addr ≥ at_) with
| true => (match decide (IntKind.u64.wrap (addr - at_) < sz) with
 | true => K (Res.ret (V.raw (Value.bool (decide (n ≤ IntKind.u64.wrap (sz - IntKind.u64.wrap (addr - at_)))))))
 | false => K (Res.ret (V.raw (Value.bool false))))
| false => K (Res.ret (V.raw (Value.bool false))))
set_option maxRecDepth 1000000 in
theorem has_eq (at_ sz addr n : Int) (K : Res → Prop) : callG Try.prog noE 100 25 [.ptr 0 0, .raw (.int .u64 addr), .raw (.int .u64 n)] [.ro [.raw (.int .u64 at_), .raw (.int .u64 sz)]] (fun r _ => K r) = has_f at_ sz addr n  K := by kernel_rfl
def kind_f (c : Int) (K : Res → Prop) : Prop :=
(match decide (c ≥ 0) with
| true => (match decide (c < 50) with
 | true => K (Res.ret (V.raw (Value.int IntKind.u64 (IntKind.u64.wrap (IntKind.u64.wrap c + 1)))))
 | false => (match c == Int.negSucc 0 with
  | true => K (Res.ret (V.raw (Value.int IntKind.u64 (IntKind.u64.wrap (4294967296 + IntKind.u64.wrap (IntKind.i64.wrap (0 - c)))))))
  | false => (match c == Int.negSucc 1 with
   | true => K (Res.ret (V.raw (Value.int IntKind.u64 (IntKind.u64.wrap (4294967296 + IntKind.u64.wrap (IntKind.i64.wrap (0 - c)))))))
   | false => K (Res.ret (V.raw (Value.int IntKind.u64 0))))))
| false => (match c == Int.negSucc 0 with
 | true => K (Res.ret (V.raw (Value.int IntKind.u64 (IntKind.u64.wrap (4294967296 + IntKind.u64.wrap (IntKind.i64.wrap (0 - c)))))))
 | false => (match c == Int.negSucc 1 with
  | true => K (Res.ret (V.raw (Value.int IntKind.u64 (IntKind.u64.wrap (4294967296 + IntKind.u64.wrap (IntKind.i64.wrap (0 - c)))))))
  | false => K (Res.ret (V.raw (Value.int IntKind.u64 0))))))
set_option maxRecDepth 1000000 in
theorem kind_eq (c : Int) (K : Res → Prop) : callG Try.prog noE 100 12 [.raw (.int .i64 c)] [] (fun r _ => K r) = kind_f c  K := by kernel_rfl
def classof_f (c : Int) (K : Res → Prop) : Prop :=
(match c == 4294967297 with
| true => K (Res.ret (V.raw (Value.int IntKind.i64 (Int.negSucc 0))))
| false => (match c == 4294967298 with
 | true => K (Res.ret (V.raw (Value.int IntKind.i64 (Int.negSucc 1))))
 | false => (match decide (c ≥ 1) with
  | true => (match decide (c ≤ 50) with
   | true => K (Res.ret (V.raw (Value.int IntKind.i64 (IntKind.i64.wrap (IntKind.u64.wrap (c - 1))))))
   | false => K (Res.ret (V.raw (Value.int IntKind.i64 (Int.negSucc 2)))))
  | false => K (Res.ret (V.raw (Value.int IntKind.i64 (Int.negSucc 2)))))))
set_option maxRecDepth 1000000 in
theorem classof_eq (c : Int) (K : Res → Prop) : callG Try.prog noE 100 13 [.raw (.int .u64 c)] [] (fun r _ => K r) = classof_f c  K := by kernel_rfl
def obj_f (c : Int) (K : Res → Prop) : Prop :=
(match c.tmod 8 != 0 with
| true => K (Res.ret (V.raw (Value.int IntKind.i64 0)))
| false => (match decide (c < 2097152) with
 | true => K (Res.ret (V.raw (Value.int IntKind.i64 0)))
 | false => (match decide (c ≥ 2621440) with
  | true => K (Res.ret (V.raw (Value.int IntKind.i64 0)))
  | false => K (Res.ret (V.raw (Value.int IntKind.i64 (IntKind.i64.wrap (IntKind.i64.wrap ((IntKind.i64.wrap (IntKind.u64.wrap (c - 2097152))).tdiv 8) + 1))))))))
set_option maxRecDepth 1000000 in
theorem obj_eq (c : Int) (K : Res → Prop) : callG Try.prog noE 100 10 [.raw (.int .u64 c)] [] (fun r _ => K r) = obj_f c  K := by kernel_rfl
def addr_f (c : Int) (K : Res → Prop) : Prop :=
(match decide (c < 1) with
| true => K (Res.ret (V.raw (Value.int IntKind.u64 0)))
| false => (match decide (c > 65536) with
 | true => K (Res.ret (V.raw (Value.int IntKind.u64 0)))
 | false => K (Res.ret (V.raw (Value.int IntKind.u64 (IntKind.u64.wrap (2097152 + IntKind.u64.wrap (8 * IntKind.u64.wrap (IntKind.i64.wrap (c - 1))))))))))
set_option maxRecDepth 1000000 in
theorem addr_eq (c : Int) (K : Res → Prop) : callG Try.prog noE 100 11 [.raw (.int .i64 c)] [] (fun r _ => K r) = addr_f c  K := by kernel_rfl
def which_f (c h d k q addr : Int) (K : Res → Prop) : Prop :=
(match ckV c h d k q != 0 with
| true => K (Res.ret (V.raw (Value.int IntKind.i64 0)))
| false => (match decide (addr ≥ 65536) with
 | true => (match decide (IntKind.u64.wrap (addr - 65536) < 262144) with
  | true => K (Res.ret (V.raw (Value.int IntKind.i64 1)))
  | false => (match decide (addr ≥ 524288) with
   | true => (match decide (IntKind.u64.wrap (addr - 524288) < 262144) with
    | true => K (Res.ret (V.raw (Value.int IntKind.i64 2)))
    | false => (match decide (addr ≥ 1048576) with
     | true => (match decide (IntKind.u64.wrap (addr - 1048576) < IntKind.u64.wrap (131072 * IntKind.u64.wrap c)) with
      | true => K (Res.ret (V.raw (Value.int IntKind.i64 3)))
      | false => (match decide (addr ≥ 2097152) with
       | true => (match decide (IntKind.u64.wrap (addr - 2097152) < IntKind.u64.wrap (8 * IntKind.u64.wrap (if 1 > h then 1 else h))) with
        | true => K (Res.ret (V.raw (Value.int IntKind.i64 4)))
        | false => (match decide (addr ≥ 3145728) with
         | true => (match decide (IntKind.u64.wrap (addr - 3145728) < if 64 > IntKind.u64.wrap (4 * IntKind.u64.wrap k) then 64 else IntKind.u64.wrap (4 * IntKind.u64.wrap k)) with
          | true => K (Res.ret (V.raw (Value.int IntKind.i64 5)))
          | false => K (Res.ret (V.raw (Value.int IntKind.i64 0))))
         | false => K (Res.ret (V.raw (Value.int IntKind.i64 0)))))
       | false => (match decide (addr ≥ 3145728) with
        | true => (match decide (IntKind.u64.wrap (addr - 3145728) < if 64 > IntKind.u64.wrap (4 * IntKind.u64.wrap k) then 64 else IntKind.u64.wrap (4 * IntKind.u64.wrap k)) with
         | true => K (Res.ret (V.raw (Value.int IntKind.i64 5)))
         | false => K (Res.ret (V.raw (Value.int IntKind.i64 0))))
        | false => K (Res.ret (V.raw (Value.int IntKind.i64 0))))))
     | false => (match decide (addr ≥ 2097152) with
      | true => (match decide (IntKind.u64.wrap (addr - 2097152) < IntKind.u64.wrap (8 * IntKind.u64.wrap (if 1 > h then 1 else h))) with
       | true => K (Res.ret (V.raw (Value.int IntKind.i64 4)))
       | false => (match decide (addr ≥ 3145728) with
        | true => (match decide (IntKind.u64.wrap (addr - 3145728) < if 64 > IntKind.u64.wrap (4 * IntKind.u64.wrap k) then 64 else IntKind.u64.wrap (4 * IntKind.u64.wrap k)) with
         | true => K (Res.ret (V.raw (Value.int IntKind.i64 5)))
         | false => K (Res.ret (V.raw (Value.int IntKind.i64 0))))
        | false => K (Res.ret (V.raw (Value.int IntKind.i64 0)))))
      | false => (match decide (addr ≥ 3145728) with
       | true => (match decide (IntKind.u64.wrap (addr - 3145728) < if 64 > IntKind.u64.wrap (4 * IntKind.u64.wrap k) then 64 else IntKind.u64.wrap (4 * IntKind.u64.wrap k)) with
        | true => K (Res.ret (V.raw (Value.int IntKind.i64 5)))
        | false => K (Res.ret (V.raw (Value.int IntKind.i64 0))))
       | false => K (Res.ret (V.raw (Value.int IntKind.i64 0)))))))
   | false => (match decide (addr ≥ 1048576) with
    | true => (match decide (IntKind.u64.wrap (addr - 1048576) < IntKind.u64.wrap (131072 * IntKind.u64.wrap c)) with
     | true => K (Res.ret (V.raw (Value.int IntKind.i64 3)))
     | false => (match decide (addr ≥ 2097152) with
      | true => (match decide (IntKind.u64.wrap (addr - 2097152) < IntKind.u64.wrap (8 * IntKind.u64.wrap (if 1 > h then 1 else h))) with
       | true => K (Res.ret (V.raw (Value.int IntKind.i64 4)))
       | false => (match decide (addr ≥ 3145728) with
        | true => (match decide (IntKind.u64.wrap (addr - 3145728) < if 64 > IntKind.u64.wrap (4 * IntKind.u64.wrap k) then 64 else IntKind.u64.wrap (4 * IntKind.u64.wrap k)) with
         | true => K (Res.ret (V.raw (Value.int IntKind.i64 5)))
         | false => K (Res.ret (V.raw (Value.int IntKind.i64 0))))
        | false => K (Res.ret (V.raw (Value.int IntKind.i64 0)))))
      | false => (match decide (addr ≥ 3145728) with
       | true => (match decide (IntKind.u64.wrap (addr - 3145728) < if 64 > IntKind.u64.wrap (4 * IntKind.u64.wrap k) then 64 else IntKind.u64.wrap (4 * IntKind.u64.wrap k)) with
        | true => K (Res.ret (V.raw (Value.int IntKind.i64 5)))
        | false => K (Res.ret (V.raw (Value.int IntKind.i64 0))))
       | false => K (Res.ret (V.raw (Value.int IntKind.i64 0))))))
    | false => (match decide (addr ≥ 2097152) with
     | true => (match decide (IntKind.u64.wrap (addr - 2097152) < IntKind.u64.wrap (8 * IntKind.u64.wrap (if 1 > h then 1 else h))) with
      | true => K (Res.ret (V.raw (Value.int IntKind.i64 4)))
      | false => (match decide (addr ≥ 3145728) with
       | true => (match decide (IntKind.u64.wrap (addr - 3145728) < if 64 > IntKind.u64.wrap (4 * IntKind.u64.wrap k) then 64 else IntKind.u64.wrap (4 * IntKind.u64.wrap k)) with
        | true => K (Res.ret (V.raw (Value.int IntKind.i64 5)))
        | false => K (Res.ret (V.raw (Value.int IntKind.i64 0))))
       | false => K (Res.ret (V.raw (Value.int IntKind.i64 0)))))
     | false => (match decide (addr ≥ 3145728) with
      | true => (match decide (IntKind.u64.wrap (addr - 3145728) < if 64 > IntKind.u64.wrap (4 * IntKind.u64.wrap k) then 64 else IntKind.u64.wrap (4 * IntKind.u64.wrap k)) with
       | true => K (Res.ret (V.raw (Value.int IntKind.i64 5)))
       | false => K (Res.ret (V.raw (Value.int IntKind.i64 0))))
      | false => K (Res.ret (V.raw (Value.int IntKind.i64 0))))))))
 | false => (match decide (addr ≥ 524288) with
  | true => (match decide (IntKind.u64.wrap (addr - 524288) < 262144) with
   | true => K (Res.ret (V.raw (Value.int IntKind.i64 2)))
   | false => (match decide (addr ≥ 1048576) with
    | true => (match decide (IntKind.u64.wrap (addr - 1048576) < IntKind.u64.wrap (131072 * IntKind.u64.wrap c)) with
     | true => K (Res.ret (V.raw (Value.int IntKind.i64 3)))
     | false => (match decide (addr ≥ 2097152) with
      | true => (match decide (IntKind.u64.wrap (addr - 2097152) < IntKind.u64.wrap (8 * IntKind.u64.wrap (if 1 > h then 1 else h))) with
       | true => K (Res.ret (V.raw (Value.int IntKind.i64 4)))
       | false => (match decide (addr ≥ 3145728) with
        | true => (match decide (IntKind.u64.wrap (addr - 3145728) < if 64 > IntKind.u64.wrap (4 * IntKind.u64.wrap k) then 64 else IntKind.u64.wrap (4 * IntKind.u64.wrap k)) with
         | true => K (Res.ret (V.raw (Value.int IntKind.i64 5)))
         | false => K (Res.ret (V.raw (Value.int IntKind.i64 0))))
        | false => K (Res.ret (V.raw (Value.int IntKind.i64 0)))))
      | false => (match decide (addr ≥ 3145728) with
       | true => (match decide (IntKind.u64.wrap (addr - 3145728) < if 64 > IntKind.u64.wrap (4 * IntKind.u64.wrap k) then 64 else IntKind.u64.wrap (4 * IntKind.u64.wrap k)) with
        | true => K (Res.ret (V.raw (Value.int IntKind.i64 5)))
        | false => K (Res.ret (V.raw (Value.int IntKind.i64 0))))
       | false => K (Res.ret (V.raw (Value.int IntKind.i64 0))))))
    | false => (match decide (addr ≥ 2097152) with
     | true => (match decide (IntKind.u64.wrap (addr - 2097152) < IntKind.u64.wrap (8 * IntKind.u64.wrap (if 1 > h then 1 else h))) with
      | true => K (Res.ret (V.raw (Value.int IntKind.i64 4)))
      | false => (match decide (addr ≥ 3145728) with
       | true => (match decide (IntKind.u64.wrap (addr - 3145728) < if 64 > IntKind.u64.wrap (4 * IntKind.u64.wrap k) then 64 else IntKind.u64.wrap (4 * IntKind.u64.wrap k)) with
        | true => K (Res.ret (V.raw (Value.int IntKind.i64 5)))
        | false => K (Res.ret (V.raw (Value.int IntKind.i64 0))))
       | false => K (Res.ret (V.raw (Value.int IntKind.i64 0)))))
     | false => (match decide (addr ≥ 3145728) with
      | true => (match decide (IntKind.u64.wrap (addr - 3145728) < if 64 > IntKind.u64.wrap (4 * IntKind.u64.wrap k) then 64 else IntKind.u64.wrap (4 * IntKind.u64.wrap k)) with
       | true => K (Res.ret (V.raw (Value.int IntKind.i64 5)))
       | false => K (Res.ret (V.raw (Value.int IntKind.i64 0))))
      | false => K (Res.ret (V.raw (Value.int IntKind.i64 0)))))))
  | false => (match decide (addr ≥ 1048576) with
   | true => (match decide (IntKind.u64.wrap (addr - 1048576) < IntKind.u64.wrap (131072 * IntKind.u64.wrap c)) with
    | true => K (Res.ret (V.raw (Value.int IntKind.i64 3)))
    | false => (match decide (addr ≥ 2097152) with
     | true => (match decide (IntKind.u64.wrap (addr - 2097152) < IntKind.u64.wrap (8 * IntKind.u64.wrap (if 1 > h then 1 else h))) with
      | true => K (Res.ret (V.raw (Value.int IntKind.i64 4)))
      | false => (match decide (addr ≥ 3145728) with
       | true => (match decide (IntKind.u64.wrap (addr - 3145728) < if 64 > IntKind.u64.wrap (4 * IntKind.u64.wrap k) then 64 else IntKind.u64.wrap (4 * IntKind.u64.wrap k)) with
        | true => K (Res.ret (V.raw (Value.int IntKind.i64 5)))
        | false => K (Res.ret (V.raw (Value.int IntKind.i64 0))))
       | false => K (Res.ret (V.raw (Value.int IntKind.i64 0)))))
     | false => (match decide (addr ≥ 3145728) with
      | true => (match decide (IntKind.u64.wrap (addr - 3145728) < if 64 > IntKind.u64.wrap (4 * IntKind.u64.wrap k) then 64 else IntKind.u64.wrap (4 * IntKind.u64.wrap k)) with
       | true => K (Res.ret (V.raw (Value.int IntKind.i64 5)))
       | false => K (Res.ret (V.raw (Value.int IntKind.i64 0))))
      | false => K (Res.ret (V.raw (Value.int IntKind.i64 0))))))
   | false => (match decide (addr ≥ 2097152) with
    | true => (match decide (IntKind.u64.wrap (addr - 2097152) < IntKind.u64.wrap (8 * IntKind.u64.wrap (if 1 > h then 1 else h))) with
     | true => K (Res.ret (V.raw (Value.int IntKind.i64 4)))
     | false => (match decide (addr ≥ 3145728) with
      | true => (match decide (IntKind.u64.wrap (addr - 3145728) < if 64 > IntKind.u64.wrap (4 * IntKind.u64.wrap k) then 64 else IntKind.u64.wrap (4 * IntKind.u64.wrap k)) with
       | true => K (Res.ret (V.raw (Value.int IntKind.i64 5)))
       | false => K (Res.ret (V.raw (Value.int IntKind.i64 0))))
      | false => K (Res.ret (V.raw (Value.int IntKind.i64 0)))))
    | false => (match decide (addr ≥ 3145728) with
     | true => (match decide (IntKind.u64.wrap (addr - 3145728) < if 64 > IntKind.u64.wrap (4 * IntKind.u64.wrap k) then 64 else IntKind.u64.wrap (4 * IntKind.u64.wrap k)) with
      | true => K (Res.ret (V.raw (Value.int IntKind.i64 5)))
      | false => K (Res.ret (V.raw (Value.int IntKind.i64 0))))
     | false => K (Res.ret (V.raw (Value.int IntKind.i64 0)))))))))
set_option maxRecDepth 1000000 in
theorem which_eq (c h d k q addr : Int) (K : Res → Prop) : callG Try.prog EC 100 7 [cfgV c h d k q, .raw (.int .u64 addr)] [] (fun r _ => K r) = which_f c h d k q addr  K := by kernel_rfl
end Go.Proofs.Ytfammlbhfgagbaa.tabF
