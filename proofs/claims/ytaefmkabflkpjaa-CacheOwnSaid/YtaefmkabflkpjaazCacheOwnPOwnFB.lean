/- formulas; printed by fm.py out of coB.spec. -/
import Derived.Test.YtaefmkabflkpjaazCacheOwnRLRow4
import Derived.Test.YtaefmkabflkpjaazCacheOwnRLNames
namespace Go.Proofs.Ytaefmkabflkpjaa.cacheOwnB
open Go Go.Proofs Go.Proofs.YtaefmkabflkpjaaRL 
set_option linter.unusedVariables false
def live1 : List Nat := [0,1,5,8,9,10,11]
def live2 : List Nat := [0,1,5,8,10,12,14]
def live3 : List Nat := [0,16,17,19]
noncomputable def p1 : List Nat := pathTo 12 (codeOf Try.prog 4)
noncomputable def c1 : Code := subAt (p1.dropLast.dropLast.dropLast ++ [0]) (codeOf Try.prog 4)
def S1 (g : Nat → Int) (n cap : Nat) (p : Option Addr) (cap2 : Nat) (T T2 : Int) (a b : Nat → Int) (i : Nat) : St := ⟨171, [(0, .sle 0 1 0 n cap), (1, .raw (.slice p 0 cap2)), (5, .ptr 2 0), (8, .raw (.int .i64 0)), (9, .lse 9 8 1 0 n), (10, .raw (.int .i64 0)), (11, .raw (.int .i64 (i : Nat)))],
  [.arr .ro [.int .u32 g] n 0, .no, .own [.raw (.int .u64 64), .raw (.int .i64 4096), .raw (.int .i64 T2), .lst 4 3 0 0 1] 50, .no, .lst [.ptr 5 0] 51 3 1, .own [.raw (.int .i64 5), .raw (.int .u64 64), .lse 7 6 1 0 n, .raw (.int .i64 1), .raw (.int .i64 T)] 54, .no, .arr (.grow 6) [.int .u32 b] n 35, .no, .arr (.grow 8) [.int .u32 a] n 35]⟩
def S2 (g : Nat → Int) (n cap : Nat) (p : Option Addr) (cap2 : Nat) (T T2 : Int) (b d : Nat → Int) (i : Nat) : St := ⟨171, [(0, .sle 0 1 0 n cap), (1, .raw (.slice p 0 cap2)), (5, .ptr 2 0), (8, .raw (.int .i64 0)), (10, .raw (.int .i64 0)), (12, .ptr 8 0), (14, .raw (.int .i64 (i : Nat)))],
  [.arr .ro [.int .u32 g] n 0, .no, .own [.raw (.int .u64 64), .raw (.int .i64 4096), .raw (.int .i64 T2), .lst 4 3 0 0 1] 50, .no, .lst [.ptr 5 0] 51 3 1, .own [.raw (.int .i64 5), .raw (.int .u64 64), .lse 7 6 1 0 n, .raw (.int .i64 1), .raw (.int .i64 T)] 54, .no, .arr (.grow 6) [.int .u32 b] n 35, .own [.raw (.int .i64 5), .raw (.int .u64 64), .lse 10 9 1 0 n, .raw (.int .i64 1)] 37, .no, .arr (.grow 9) [.int .u32 d] n 35]⟩
def S3 (g : Nat → Int) (n cap : Nat) (p : Option Addr) (cap2 : Nat) (a b : Nat → Int) (i : Nat) : St := ⟨171, [(0, .sle 0 1 0 n cap), (16, .lst 3 2 0 0 1), (17, .ptr 6 0), (19, .raw (.int .i64 (i : Nat)))],
  [.arr .ro [.int .u32 g] n 0, .no, .no, .lst [.raw (.int .i64 5), .raw (.int .u64 64), .lse 5 4 1 0 n, .raw (.int .i64 2)] 37 2 4, .no, .arr (.grow 4) [.int .u32 a] n 35, .own [.raw (.int .i64 5), .raw (.int .u64 64), .lse 8 7 1 0 n, .raw (.int .i64 2)] 37, .no, .arr (.grow 7) [.int .u32 b] n 35]⟩
noncomputable def p2 : List Nat := pathTo 17 c1
noncomputable def c2 : Code := subAt (p2.dropLast.dropLast.dropLast ++ [0]) c1
noncomputable def p3 : List Nat := pathTo 28 c2
noncomputable def c3 : Code := subAt (p3.dropLast.dropLast.dropLast ++ [0]) c2
def pathS (r : Nat) : Code → List Nat
  | .seq a b => match Nat.beq (firstR (.seq a b)) (r + 1) with
    | true => []
    | false => 0 :: pathS r b
  | _ => []

def pre_f (g : Nat → Int) (q cap : Nat) (p : Option Addr) (cap2 : Nat) (K : Res → Prop) (Z : St → Prop) : Prop :=
(match decide ((↑(q + 1) : Int) > 1000) with
| true => K (Res.ret (V.raw (Value.bool true)))
| false => (match decide ((↑(q + 1) : Int) > 4096) with
 | true => (match (0 + (q + 1)).ble (q + 1) with
  | true => (match growOk (0 + (q + 1)) 4 with
   | true => Z { n := 171, t := [(0, V.sle 0 1 0 (q + 1) cap), (1, V.raw (Value.slice p 0 cap2)), (5, V.ptr 2 0), (8, V.raw (Value.int IntKind.i64 4)), (9, V.lse 4 3 1 0 (0 + (q + 1))), (10, V.raw (Value.int IntKind.i64 3)), (11, V.raw (Value.int IntKind.i64 0))], s := [Ent.arr AM.ro [Col.int IntKind.u32 g] (q + 1) 0, Ent.no, Ent.own [V.raw (Value.int IntKind.u64 64), V.raw (Value.int IntKind.i64 4096), V.raw (Value.int IntKind.i64 0), V.raw (Value.slice none 0 0)] 50, Ent.no, Ent.arr (AM.grow 3) [Col.int IntKind.u32 fun j ↦ match false with | true => 0 | false => g (j - 0 + 0)] (0 + (q + 1)) 35] }
   | false => False)
  | false => False)
 | false => (match (0 + (q + 1)).ble (q + 1) with
  | true => (match growOk (0 + (q + 1)) 4 with
   | true => (match decide ((↑(0 + (q + 1)) : Int) > IntKind.i64.wrap (IntKind.i64.wrap ((IntKind.i64.wrap (IntKind.i64.wrap ((↑(q + 1) : Int) + 16) - 1)).tdiv 16) * 16)) with
    | true => Z { n := 171, t := [(0, V.sle 0 1 0 (q + 1) cap), (1, V.raw (Value.slice p 0 cap2)), (5, V.ptr 2 0), (8, V.raw (Value.int IntKind.i64 0)), (9, V.lse 7 6 1 0 (0 + (q + 1))), (10, V.raw (Value.int IntKind.i64 4)), (11, V.raw (Value.int IntKind.i64 0))], s := [Ent.arr AM.ro [Col.int IntKind.u32 g] (q + 1) 0, Ent.no, Ent.own [V.raw (Value.int IntKind.u64 64), V.raw (Value.int IntKind.i64 4096), V.raw (Value.int IntKind.i64 (IntKind.i64.wrap (0 + IntKind.i64.wrap (IntKind.i64.wrap ((IntKind.i64.wrap (IntKind.i64.wrap ((↑(q + 1) : Int) + 16) - 1)).tdiv 16) * 16)))), V.lst 4 3 0 0 1] 50, Ent.no, Ent.lst [V.ptr 5 0] 51 3 1, Ent.own [V.raw (Value.int IntKind.i64 5), V.raw (Value.int IntKind.u64 64), V.raw (Value.slice none 0 0), V.raw (Value.int IntKind.i64 0), V.raw (Value.int IntKind.i64 (IntKind.i64.wrap (IntKind.i64.wrap ((IntKind.i64.wrap (IntKind.i64.wrap ((↑(q + 1) : Int) + 16) - 1)).tdiv 16) * 16)))] 54, Ent.no, Ent.arr (AM.grow 6) [Col.int IntKind.u32 fun j ↦ match false with | true => 0 | false => g (j - 0 + 0)] (0 + (q + 1)) 35] }
    | false => (match (0 + (0 + (q + 1))).ble (0 + (q + 1)) with
     | true => (match growOk (0 + (0 + (q + 1))) 4 with
      | true => Z { n := 171, t := [(0, V.sle 0 1 0 (q + 1) cap), (1, V.raw (Value.slice p 0 cap2)), (5, V.ptr 2 0), (8, V.raw (Value.int IntKind.i64 0)), (9, V.lse 9 8 1 0 (0 + (q + 1))), (10, V.raw (Value.int IntKind.i64 0)), (11, V.raw (Value.int IntKind.i64 0))], s := [Ent.arr AM.ro [Col.int IntKind.u32 g] (q + 1) 0, Ent.no, Ent.own [V.raw (Value.int IntKind.u64 64), V.raw (Value.int IntKind.i64 4096), V.raw (Value.int IntKind.i64 (IntKind.i64.wrap (0 + IntKind.i64.wrap (IntKind.i64.wrap ((IntKind.i64.wrap (IntKind.i64.wrap ((↑(q + 1) : Int) + 16) - 1)).tdiv 16) * 16)))), V.lst 4 3 0 0 1] 50, Ent.no, Ent.lst [V.ptr 5 0] 51 3 1, Ent.own [V.raw (Value.int IntKind.i64 5), V.raw (Value.int IntKind.u64 64), V.lse 7 6 1 0 (0 + (0 + (q + 1))), V.raw (Value.int IntKind.i64 1), V.raw (Value.int IntKind.i64 (IntKind.i64.wrap (IntKind.i64.wrap ((IntKind.i64.wrap (IntKind.i64.wrap ((↑(q + 1) : Int) + 16) - 1)).tdiv 16) * 16)))] 54, Ent.no, Ent.arr (AM.grow 6) [Col.int IntKind.u32 fun j ↦ match false with | true => 0 | false => match false with | true => 0 | false => g (j - 0 + 0 - 0 + 0)] (0 + (0 + (q + 1))) 35, Ent.no, Ent.arr (AM.grow 8) [Col.int IntKind.u32 fun j ↦ match false with | true => 0 | false => g (j - 0 + 0)] (0 + (q + 1)) 35] }
      | false => False)
     | false => False))
   | false => False)
  | false => False)))
set_option maxRecDepth 1000000 in
theorem pre_eq (g : Nat → Int) (q cap : Nat) (p : Option Addr) (cap2 : Nat) (K : Res → Prop) (Z : St → Prop) : evTo Try.prog noD 60 2 (fun st => Z (gcSt 2 live1 st)) p1 (codeOf Try.prog 4) ⟨(funcOf Try.prog 4).ntmps, zipArgs 0 [.sle 0 1 0 (q + 1) cap, .raw (.slice p 0 cap2)], [.arr .ro [.int .u32 g] (q + 1) 0, .no]⟩ (bodyK False Try.prog (funcOf Try.prog 4) (fun r _ => K r)) = pre_f g  q cap  p  cap2  K  Z := by kernel_rfl
def body1_f (g : Nat → Int) (n cap : Nat) (p : Option Addr) (cap2 : Nat) (T T2 : Int) (a b : Nat → Int) (i : Nat) (K : Ex → St → Prop) : Prop :=
(match decide ((↑i : Int) < (↑n : Int)) with
| true => (match decide ((↑i : Int) < (↑n : Int)) with
 | true => (match ((↑i : Int).toNat + 0).blt n with
  | true => (match decide ((↑i : Int) < (↑n : Int)) with
   | true => (match ((↑i : Int).toNat + 0).blt n with
    | true => K Ex.normal { n := 171, t := [(0, V.sle 0 1 0 n cap), (1, V.raw (Value.slice p 0 cap2)), (5, V.ptr 2 0), (8, V.raw (Value.int IntKind.i64 0)), (9, V.lse 9 8 1 0 n), (10, V.raw (Value.int IntKind.i64 0)), (11, V.raw (Value.int IntKind.i64 (IntKind.i64.wrap ((↑i : Int) + 1))))], s := [Ent.arr AM.ro [Col.int IntKind.u32 g] n 0, Ent.no, Ent.own [V.raw (Value.int IntKind.u64 64), V.raw (Value.int IntKind.i64 4096), V.raw (Value.int IntKind.i64 T2), V.lst 4 3 0 0 1] 50, Ent.no, Ent.lst [V.ptr 5 0] 51 3 1, Ent.own [V.raw (Value.int IntKind.i64 5), V.raw (Value.int IntKind.u64 64), V.lse 7 6 1 0 n, V.raw (Value.int IntKind.i64 1), V.raw (Value.int IntKind.i64 T)] 54, Ent.no, Ent.arr (AM.grow 6) [Col.int IntKind.u32 b] n 35, Ent.no, Ent.arr (AM.grow 8) [Col.int IntKind.u32 fun j ↦ match j.beq ((↑i : Int).toNat + 0) with | true => IntKind.u32.wrap (a ((↑i : Int).toNat + 0) + 1) | false => a j] n 35] }
    | false => False)
   | false => False)
  | false => False)
 | false => False)
| false => K (Ex.exit 0) { n := 171, t := [(0, V.sle 0 1 0 n cap), (1, V.raw (Value.slice p 0 cap2)), (5, V.ptr 2 0), (8, V.raw (Value.int IntKind.i64 0)), (9, V.lse 9 8 1 0 n), (10, V.raw (Value.int IntKind.i64 0)), (11, V.raw (Value.int IntKind.i64 (↑i : Int)))], s := [Ent.arr AM.ro [Col.int IntKind.u32 g] n 0, Ent.no, Ent.own [V.raw (Value.int IntKind.u64 64), V.raw (Value.int IntKind.i64 4096), V.raw (Value.int IntKind.i64 T2), V.lst 4 3 0 0 1] 50, Ent.no, Ent.lst [V.ptr 5 0] 51 3 1, Ent.own [V.raw (Value.int IntKind.i64 5), V.raw (Value.int IntKind.u64 64), V.lse 7 6 1 0 n, V.raw (Value.int IntKind.i64 1), V.raw (Value.int IntKind.i64 T)] 54, Ent.no, Ent.arr (AM.grow 6) [Col.int IntKind.u32 b] n 35, Ent.no, Ent.arr (AM.grow 8) [Col.int IntKind.u32 a] n 35] })
set_option maxRecDepth 1000000 in
theorem body1_eq (g : Nat → Int) (n cap : Nat) (p : Option Addr) (cap2 : Nat) (T T2 : Int) (a b : Nat → Int) (i : Nat) (K : Ex → St → Prop) : evG Try.prog noD 60 (lft (subAt p1 (codeOf Try.prog 4))) (S1 g n cap p cap2 T T2 a b i) (fun e st => K e (gcSt 2 live1 st)) = body1_f g  n cap  p  cap2  T T2  a b  i  K := by kernel_rfl
def mid_f (g : Nat → Int) (q cap : Nat) (p : Option Addr) (cap2 : Nat) (T T2 : Int) (a b : Nat → Int) (K : Res → Prop) (Z : St → Prop) : Prop :=
(match (0 + (q + 1)).ble (q + 1) with
| true => (match growOk (0 + (q + 1)) 4 with
 | true => Z { n := 171, t := [(0, V.sle 0 1 0 (q + 1) cap), (1, V.raw (Value.slice p 0 cap2)), (5, V.ptr 2 0), (8, V.raw (Value.int IntKind.i64 0)), (10, V.raw (Value.int IntKind.i64 0)), (12, V.ptr 8 0), (14, V.raw (Value.int IntKind.i64 0))], s := [Ent.arr AM.ro [Col.int IntKind.u32 g] (q + 1) 0, Ent.no, Ent.own [V.raw (Value.int IntKind.u64 64), V.raw (Value.int IntKind.i64 4096), V.raw (Value.int IntKind.i64 T2), V.lst 4 3 0 0 1] 50, Ent.no, Ent.lst [V.ptr 5 0] 51 3 1, Ent.own [V.raw (Value.int IntKind.i64 5), V.raw (Value.int IntKind.u64 64), V.lse 7 6 1 0 (q + 1), V.raw (Value.int IntKind.i64 1), V.raw (Value.int IntKind.i64 T)] 54, Ent.no, Ent.arr (AM.grow 6) [Col.int IntKind.u32 b] (q + 1) 35, Ent.own [V.raw (Value.int IntKind.i64 5), V.raw (Value.int IntKind.u64 64), V.lse 10 9 1 0 (0 + (q + 1)), V.raw (Value.int IntKind.i64 1)] 37, Ent.no, Ent.arr (AM.grow 9) [Col.int IntKind.u32 fun j ↦ match false with | true => 0 | false => b (j - 0 + 0)] (0 + (q + 1)) 35] }
 | false => False)
| false => False)
set_option maxRecDepth 1000000 in
theorem mid_eq (g : Nat → Int) (q cap : Nat) (p : Option Addr) (cap2 : Nat) (T T2 : Int) (a b : Nat → Int) (K : Res → Prop) (Z : St → Prop) : evTo Try.prog noD 60 2 (fun st => Z (gcSt 2 live2 st)) (pathTo 17 c1) c1 (S1 g (q + 1) cap p cap2 T T2 a b (q + 1)) (bodyK False Try.prog (funcOf Try.prog 4) (fun r _ => K r)) = mid_f g  q cap  p  cap2  T T2  a b  K  Z := by kernel_rfl
def body2_f (g : Nat → Int) (n cap : Nat) (p : Option Addr) (cap2 : Nat) (T T2 : Int) (b d : Nat → Int) (i : Nat) (K : Ex → St → Prop) : Prop :=
(match decide ((↑i : Int) < (↑n : Int)) with
| true => (match decide ((↑i : Int) < (↑n : Int)) with
 | true => (match ((↑i : Int).toNat + 0).blt n with
  | true => (match decide ((↑i : Int) < (↑n : Int)) with
   | true => (match ((↑i : Int).toNat + 0).blt n with
    | true => K Ex.normal { n := 171, t := [(0, V.sle 0 1 0 n cap), (1, V.raw (Value.slice p 0 cap2)), (5, V.ptr 2 0), (8, V.raw (Value.int IntKind.i64 0)), (10, V.raw (Value.int IntKind.i64 0)), (12, V.ptr 8 0), (14, V.raw (Value.int IntKind.i64 (IntKind.i64.wrap ((↑i : Int) + 1))))], s := [Ent.arr AM.ro [Col.int IntKind.u32 g] n 0, Ent.no, Ent.own [V.raw (Value.int IntKind.u64 64), V.raw (Value.int IntKind.i64 4096), V.raw (Value.int IntKind.i64 T2), V.lst 4 3 0 0 1] 50, Ent.no, Ent.lst [V.ptr 5 0] 51 3 1, Ent.own [V.raw (Value.int IntKind.i64 5), V.raw (Value.int IntKind.u64 64), V.lse 7 6 1 0 n, V.raw (Value.int IntKind.i64 1), V.raw (Value.int IntKind.i64 T)] 54, Ent.no, Ent.arr (AM.grow 6) [Col.int IntKind.u32 b] n 35, Ent.own [V.raw (Value.int IntKind.i64 5), V.raw (Value.int IntKind.u64 64), V.lse 10 9 1 0 n, V.raw (Value.int IntKind.i64 1)] 37, Ent.no, Ent.arr (AM.grow 9) [Col.int IntKind.u32 fun j ↦ match j.beq ((↑i : Int).toNat + 0) with | true => IntKind.u32.wrap (d ((↑i : Int).toNat + 0) - 1) | false => d j] n 35] }
    | false => False)
   | false => False)
  | false => False)
 | false => False)
| false => K (Ex.exit 2) { n := 171, t := [(0, V.sle 0 1 0 n cap), (1, V.raw (Value.slice p 0 cap2)), (5, V.ptr 2 0), (8, V.raw (Value.int IntKind.i64 0)), (10, V.raw (Value.int IntKind.i64 0)), (12, V.ptr 8 0), (14, V.raw (Value.int IntKind.i64 (↑i : Int)))], s := [Ent.arr AM.ro [Col.int IntKind.u32 g] n 0, Ent.no, Ent.own [V.raw (Value.int IntKind.u64 64), V.raw (Value.int IntKind.i64 4096), V.raw (Value.int IntKind.i64 T2), V.lst 4 3 0 0 1] 50, Ent.no, Ent.lst [V.ptr 5 0] 51 3 1, Ent.own [V.raw (Value.int IntKind.i64 5), V.raw (Value.int IntKind.u64 64), V.lse 7 6 1 0 n, V.raw (Value.int IntKind.i64 1), V.raw (Value.int IntKind.i64 T)] 54, Ent.no, Ent.arr (AM.grow 6) [Col.int IntKind.u32 b] n 35, Ent.own [V.raw (Value.int IntKind.i64 5), V.raw (Value.int IntKind.u64 64), V.lse 10 9 1 0 n, V.raw (Value.int IntKind.i64 1)] 37, Ent.no, Ent.arr (AM.grow 9) [Col.int IntKind.u32 d] n 35] })
set_option maxRecDepth 1000000 in
theorem body2_eq (g : Nat → Int) (n cap : Nat) (p : Option Addr) (cap2 : Nat) (T T2 : Int) (b d : Nat → Int) (i : Nat) (K : Ex → St → Prop) : evG Try.prog noD 60 (lft (subAt p2 c1)) (S2 g n cap p cap2 T T2 b d i) (fun e st => K e (gcSt 2 live2 st)) = body2_f g  n cap  p  cap2  T T2  b d  i  K := by kernel_rfl
def mid2_f (g : Nat → Int) (q cap : Nat) (p : Option Addr) (cap2 : Nat) (T T2 : Int) (b d : Nat → Int) (K : Res → Prop) (Z : St → Prop) : Prop :=
(match (0 + (q + 1)).ble (q + 1) with
| true => (match growOk (0 + (q + 1)) 4 with
 | true => (match (0 + (q + 1)).ble (q + 1) with
  | true => (match growOk (0 + (q + 1)) 4 with
   | true => (match decide (0 < IntKind.u64.wrap (4 * IntKind.u64.wrap (↑(q + 1) : Int))) with
    | true => (match (0 + (q + 1)).ble (q + 1) with
     | true => (match growOk (0 + (q + 1)) 4 with
      | true => (match (↑(0 + (q + 1)) : Int) != (↑(q + 1) : Int) with
       | true => K (Res.ret (V.raw (Value.bool false)))
       | false => Z { n := 171, t := [(0, V.sle 0 1 0 (q + 1) cap), (16, V.lst 3 2 0 0 1), (17, V.ptr 6 0), (19, V.raw (Value.int IntKind.i64 0))], s := [Ent.arr AM.ro [Col.int IntKind.u32 g] (q + 1) 0, Ent.no, Ent.no, Ent.lst [V.raw (Value.int IntKind.i64 5), V.raw (Value.int IntKind.u64 64), V.lse 5 4 1 0 (0 + (q + 1)), V.raw (Value.int IntKind.i64 2)] 37 2 4, Ent.no, Ent.arr (AM.grow 4) [Col.int IntKind.u32 fun j ↦ match false with | true => 0 | false => b (j - 0 + 0)] (0 + (q + 1)) 35, Ent.own [V.raw (Value.int IntKind.i64 5), V.raw (Value.int IntKind.u64 64), V.lse 8 7 1 0 (0 + (q + 1)), V.raw (Value.int IntKind.i64 2)] 37, Ent.no, Ent.arr (AM.grow 7) [Col.int IntKind.u32 fun j ↦ match false with | true => 0 | false => b (j - 0 + 0)] (0 + (q + 1)) 35] })
      | false => False)
     | false => False)
    | false => K (Res.ret (V.raw (Value.bool false))))
   | false => False)
  | false => False)
 | false => False)
| false => False)
set_option maxRecDepth 1000000 in
theorem mid2_eq (g : Nat → Int) (q cap : Nat) (p : Option Addr) (cap2 : Nat) (T T2 : Int) (b d : Nat → Int) (K : Res → Prop) (Z : St → Prop) : evTo Try.prog noD 60 2 (fun st => Z (gcSt 2 live3 st)) p3 c2 (S2 g (q + 1) cap p cap2 T T2 b d (q + 1)) (bodyK False Try.prog (funcOf Try.prog 4) (fun r _ => K r)) = mid2_f g  q cap  p  cap2  T T2  b d  K  Z := by kernel_rfl
def body3_f (g : Nat → Int) (n cap : Nat) (p : Option Addr) (cap2 : Nat) (a b : Nat → Int) (i : Nat) (K : Ex → St → Prop) : Prop :=
(match decide ((↑i : Int) < (↑n : Int)) with
| true => (match decide ((↑i : Int) < (↑n : Int)) with
 | true => (match ((↑i : Int).toNat + 0).blt n with
  | true => (match decide ((↑i : Int) < (↑n : Int)) with
   | true => (match ((↑i : Int).toNat + 0).blt n with
    | true => (match b ((↑i : Int).toNat + 0) != g ((↑i : Int).toNat + 0) with
     | true => K Ex.ret { n := 171, t := [(0, V.sle 0 1 0 n cap), (16, V.lst 3 2 0 0 1), (17, V.ptr 6 0), (19, V.raw (Value.int IntKind.i64 (↑i : Int)))], s := [Ent.arr AM.ro [Col.int IntKind.u32 g] n 0, Ent.no, Ent.no, Ent.lst [V.raw (Value.int IntKind.i64 5), V.raw (Value.int IntKind.u64 64), V.lse 5 4 1 0 n, V.raw (Value.int IntKind.i64 2)] 37 2 4, Ent.no, Ent.arr (AM.grow 4) [Col.int IntKind.u32 a] n 35, Ent.own [V.raw (Value.int IntKind.i64 5), V.raw (Value.int IntKind.u64 64), V.lse 8 7 1 0 n, V.raw (Value.int IntKind.i64 2)] 37, Ent.no, Ent.arr (AM.grow 7) [Col.int IntKind.u32 b] n 35] }
     | false => (match decide ((↑i : Int) < (↑n : Int)) with
      | true => (match ((↑i : Int).toNat + 0).blt n with
       | true => (match decide ((↑i : Int) < (↑n : Int)) with
        | true => (match ((↑i : Int).toNat + 0).blt n with
         | true => (match a ((↑i : Int).toNat + 0) != g ((↑i : Int).toNat + 0) with
          | true => K Ex.ret { n := 171, t := [(0, V.sle 0 1 0 n cap), (16, V.lst 3 2 0 0 1), (17, V.ptr 6 0), (19, V.raw (Value.int IntKind.i64 (↑i : Int)))], s := [Ent.arr AM.ro [Col.int IntKind.u32 g] n 0, Ent.no, Ent.no, Ent.lst [V.raw (Value.int IntKind.i64 5), V.raw (Value.int IntKind.u64 64), V.lse 5 4 1 0 n, V.raw (Value.int IntKind.i64 2)] 37 2 4, Ent.no, Ent.arr (AM.grow 4) [Col.int IntKind.u32 a] n 35, Ent.own [V.raw (Value.int IntKind.i64 5), V.raw (Value.int IntKind.u64 64), V.lse 8 7 1 0 n, V.raw (Value.int IntKind.i64 2)] 37, Ent.no, Ent.arr (AM.grow 7) [Col.int IntKind.u32 b] n 35] }
          | false => K Ex.normal { n := 171, t := [(0, V.sle 0 1 0 n cap), (16, V.lst 3 2 0 0 1), (17, V.ptr 6 0), (19, V.raw (Value.int IntKind.i64 (IntKind.i64.wrap ((↑i : Int) + 1))))], s := [Ent.arr AM.ro [Col.int IntKind.u32 g] n 0, Ent.no, Ent.no, Ent.lst [V.raw (Value.int IntKind.i64 5), V.raw (Value.int IntKind.u64 64), V.lse 5 4 1 0 n, V.raw (Value.int IntKind.i64 2)] 37 2 4, Ent.no, Ent.arr (AM.grow 4) [Col.int IntKind.u32 a] n 35, Ent.own [V.raw (Value.int IntKind.i64 5), V.raw (Value.int IntKind.u64 64), V.lse 8 7 1 0 n, V.raw (Value.int IntKind.i64 2)] 37, Ent.no, Ent.arr (AM.grow 7) [Col.int IntKind.u32 b] n 35] })
         | false => False)
        | false => False)
       | false => False)
      | false => False))
    | false => False)
   | false => False)
  | false => False)
 | false => False)
| false => K (Ex.exit 4) { n := 171, t := [(0, V.sle 0 1 0 n cap), (16, V.lst 3 2 0 0 1), (17, V.ptr 6 0), (19, V.raw (Value.int IntKind.i64 (↑i : Int)))], s := [Ent.arr AM.ro [Col.int IntKind.u32 g] n 0, Ent.no, Ent.no, Ent.lst [V.raw (Value.int IntKind.i64 5), V.raw (Value.int IntKind.u64 64), V.lse 5 4 1 0 n, V.raw (Value.int IntKind.i64 2)] 37 2 4, Ent.no, Ent.arr (AM.grow 4) [Col.int IntKind.u32 a] n 35, Ent.own [V.raw (Value.int IntKind.i64 5), V.raw (Value.int IntKind.u64 64), V.lse 8 7 1 0 n, V.raw (Value.int IntKind.i64 2)] 37, Ent.no, Ent.arr (AM.grow 7) [Col.int IntKind.u32 b] n 35] })
set_option maxRecDepth 1000000 in
theorem body3_eq (g : Nat → Int) (n cap : Nat) (p : Option Addr) (cap2 : Nat) (a b : Nat → Int) (i : Nat) (K : Ex → St → Prop) : evG Try.prog noD 60 (lft (subAt p3 c2)) (S3 g n cap p cap2 a b i) (fun e st => K e (gcSt 2 live3 st)) = body3_f g  n cap  p  cap2  a b  i  K := by kernel_rfl
def post_f (g : Nat → Int) (n cap : Nat) (p : Option Addr) (cap2 : Nat) (a b : Nat → Int) (i : Nat) (K : Res → Prop) : Prop :=
K (Res.ret (V.raw (Value.bool true)))
set_option maxRecDepth 1000000 in
theorem post_eq (g : Nat → Int) (n cap : Nat) (p : Option Addr) (cap2 : Nat) (a b : Nat → Int) (i : Nat) (K : Res → Prop) : evG Try.prog noD 60 c3 (S3 g n cap p cap2 a b i) (bodyK False Try.prog (funcOf Try.prog 4) (fun r _ => K r)) = post_f g  n cap  p  cap2  a b  i  K := by kernel_rfl
end Go.Proofs.Ytaefmkabflkpjaa.cacheOwnB
