/- formulas; printed by fm.py out of Bytes.spec. -/
import Derived.Test.YtbjikmepfpkmjaazEncRowsPWords
namespace Go.Proofs.Ytbjikmepfpkmjaa.encBytes
open Go Go.Proofs Go.Proofs.YtbjikmepfpkmjaaRL  Go.Proofs.Ytbjikmepfpkmjaa.isa
set_option linter.unusedVariables false
noncomputable def EB : Eh := addE 12 Go.Proofs.Ytbjikmepfpkmjaa.encWords.wordsA noE
def live : List Nat := [2,3,6,17,18,19]
noncomputable def p1 : List Nat := pathTo 6 (codeOf Try.prog 13)
noncomputable def c1 : Code := subAt (p1.dropLast.dropLast.dropLast ++ [0]) (codeOf Try.prog 13)
def S0 (I : InsC) (n N : Nat) (t : TypeId) : St := ⟨39, [(2, .raw (.slice none 0 0)), (3, .raw (.int .i64 0)), (6, .raw (.slice none 0 0)), (17, .lse 2 1 1 0 n), (18, .raw (.int .i64 (n : Nat))), (19, .raw (.int .i64 0))], [.arr .ro I.cols N t, .no, .arr (.grow 1) [.int .u32 I.W] n 25]⟩
def S1 (I : InsC) (n N : Nat) (t : TypeId) (b : Nat → Int) (i : Nat) : St := ⟨39, [(2, .raw (.slice none 0 0)), (3, .raw (.int .i64 0)), (6, .lse 2 1 1 0 (4 * (i + 1))), (17, .lse 4 3 1 0 n), (18, .raw (.int .i64 (n : Nat))), (19, .raw (.int .i64 (i + 1 : Nat)))], [.arr .ro I.cols N t, .no, .arr (.grow 1) [.int .u8 b] (4 * (i + 1)) 5, .no, .arr (.grow 3) [.int .u32 I.W] n 25]⟩

def pre_f (I : InsC) (n N cap : Nat) (t : TypeId) (K : Res → Sto → Prop) (Z : St → Prop) : Prop :=
(match n.ble N with
| true => (match n.ble 1000000 with
 | true => (match n.beq 0 with
  | true => False
  | false => (match decide (I.all n) with
   | true => Z (St.mk 39 [(2, V.raw (Value.slice none 0 0)), (3, V.raw (Value.int IntKind.i64 0)), (6, V.raw (Value.slice none 0 0)), (17, V.lse 2 1 1 0 n), (18, V.raw (Value.int IntKind.i64 (↑n : Int))), (19, V.raw (Value.int IntKind.i64 0))] [Ent.arr AM.ro [Col.int IntKind.i64 I.op, Col.int IntKind.i64 I.d, Col.int IntKind.i64 I.n, Col.int IntKind.i64 I.m, Col.int IntKind.i64 I.a, Col.int IntKind.i64 I.c, Col.int IntKind.i64 I.im] N t, Ent.no, Ent.arr (AM.grow 1) [Col.int IntKind.u32 fun j ↦ wordV (I.op j) (I.d j) (I.n j) (I.m j) (I.a j) (I.c j) (I.im j)] n 25])
   | false => K (Res.ret (V.tup [V.raw (Value.slice none 0 0), V.raw (Value.int IntKind.i64 1)])) [Ent.arr AM.ro [Col.int IntKind.i64 I.op, Col.int IntKind.i64 I.d, Col.int IntKind.i64 I.n, Col.int IntKind.i64 I.m, Col.int IntKind.i64 I.a, Col.int IntKind.i64 I.c, Col.int IntKind.i64 I.im] N t]))
 | false => False)
| false => False)
set_option maxRecDepth 1000000 in
theorem pre_eq (I : InsC) (n N cap : Nat) (t : TypeId) (K : Res → Sto → Prop) (Z : St → Prop) : evTo Try.prog EB 40 1 (fun st => Z (gcSt 1 live st)) p1 (codeOf Try.prog 13) ⟨(funcOf Try.prog 13).ntmps, zipArgs 0 [.sle 0 7 0 n cap], [.arr .ro I.cols N t]⟩ (bodyK False Try.prog (funcOf Try.prog 13) K) = pre_f I  n N cap  t  K  Z := by kernel_rfl
def body0_f (I : InsC) (n N : Nat) (t : TypeId) (K : Ex → St → Prop) : Prop :=
(match decide (0 < (↑n : Int)) with
| true => (match decide (0 < (↑n : Int)) with
 | true => (match Nat.blt 0 n with
  | true => K Ex.normal (St.mk 39 [(2, V.raw (Value.slice none 0 0)), (3, V.raw (Value.int IntKind.i64 0)), (6, V.lse 2 1 1 0 4), (17, V.lse 4 3 1 0 n), (18, V.raw (Value.int IntKind.i64 (↑n : Int))), (19, V.raw (Value.int IntKind.i64 1))] [Ent.arr AM.ro [Col.int IntKind.i64 I.op, Col.int IntKind.i64 I.d, Col.int IntKind.i64 I.n, Col.int IntKind.i64 I.m, Col.int IntKind.i64 I.a, Col.int IntKind.i64 I.c, Col.int IntKind.i64 I.im] N t, Ent.no, Ent.arr (AM.grow 1) [Col.int IntKind.u8 fun j ↦ [IntKind.u8.wrap (I.W 0), IntKind.u8.wrap ((I.W 0).fdiv 256), IntKind.u8.wrap ((I.W 0).fdiv 65536), IntKind.u8.wrap ((I.W 0).fdiv 16777216)].getD j 0] 4 5, Ent.no, Ent.arr (AM.grow 3) [Col.int IntKind.u32 fun j ↦ wordV (I.op j) (I.d j) (I.n j) (I.m j) (I.a j) (I.c j) (I.im j)] n 25])
  | false => False)
 | false => False)
| false => K (Ex.exit 0) (St.mk 39 [(2, V.raw (Value.slice none 0 0)), (3, V.raw (Value.int IntKind.i64 0)), (6, V.raw (Value.slice none 0 0)), (17, V.lse 2 1 1 0 n), (18, V.raw (Value.int IntKind.i64 (↑n : Int))), (19, V.raw (Value.int IntKind.i64 0))] [Ent.arr AM.ro [Col.int IntKind.i64 I.op, Col.int IntKind.i64 I.d, Col.int IntKind.i64 I.n, Col.int IntKind.i64 I.m, Col.int IntKind.i64 I.a, Col.int IntKind.i64 I.c, Col.int IntKind.i64 I.im] N t, Ent.no, Ent.arr (AM.grow 1) [Col.int IntKind.u32 fun j ↦ wordV (I.op j) (I.d j) (I.n j) (I.m j) (I.a j) (I.c j) (I.im j)] n 25]))
set_option maxRecDepth 1000000 in
theorem body0_eq (I : InsC) (n N : Nat) (t : TypeId) (K : Ex → St → Prop) : evG Try.prog EB 40 (lft (subAt p1 (codeOf Try.prog 13))) (S0 I n N t) (fun e st => K e (gcSt 1 live st)) = body0_f I  n N  t  K := by kernel_rfl
def body1_f (I : InsC) (n N : Nat) (t : TypeId) (b : Nat → Int) (i : Nat) (K : Ex → St → Prop) : Prop :=
(match decide ((↑(i + 1) : Int) < (↑n : Int)) with
| true => (match decide ((↑(i + 1) : Int) < (↑n : Int)) with
 | true => (match ((↑(i + 1) : Int).toNat + 0).blt n with
  | true => (match (4 * (i + 1)).ble (4 * (i + 1)) with
   | true => (match growOk (4 * (i + 1) + 4) 1 with
    | true => K Ex.normal (St.mk 39 [(2, V.raw (Value.slice none 0 0)), (3, V.raw (Value.int IntKind.i64 0)), (6, V.lse 2 1 1 0 (4 * (i + 1) + 4)), (17, V.lse 4 3 1 0 n), (18, V.raw (Value.int IntKind.i64 (↑n : Int))), (19, V.raw (Value.int IntKind.i64 (IntKind.i64.wrap ((↑(i + 1) : Int) + 1))))] [Ent.arr AM.ro [Col.int IntKind.i64 I.op, Col.int IntKind.i64 I.d, Col.int IntKind.i64 I.n, Col.int IntKind.i64 I.m, Col.int IntKind.i64 I.a, Col.int IntKind.i64 I.c, Col.int IntKind.i64 I.im] N t, Ent.no, Ent.arr (AM.grow 1) [Col.int IntKind.u8 fun j ↦ match j.blt (4 * (i + 1)) with | true => b j | false => [IntKind.u8.wrap (I.W ((↑(i + 1) : Int).toNat + 0)), IntKind.u8.wrap ((I.W ((↑(i + 1) : Int).toNat + 0)).fdiv 256), IntKind.u8.wrap ((I.W ((↑(i + 1) : Int).toNat + 0)).fdiv 65536), IntKind.u8.wrap ((I.W ((↑(i + 1) : Int).toNat + 0)).fdiv 16777216)].getD (j - 4 * (i + 1)) 0] (4 * (i + 1) + 4) 5, Ent.no, Ent.arr (AM.grow 3) [Col.int IntKind.u32 fun j ↦ wordV (I.op j) (I.d j) (I.n j) (I.m j) (I.a j) (I.c j) (I.im j)] n 25])
    | false => False)
   | false => False)
  | false => False)
 | false => False)
| false => K (Ex.exit 0) (St.mk 39 [(2, V.raw (Value.slice none 0 0)), (3, V.raw (Value.int IntKind.i64 0)), (6, V.lse 2 1 1 0 (4 * (i + 1))), (17, V.lse 4 3 1 0 n), (18, V.raw (Value.int IntKind.i64 (↑n : Int))), (19, V.raw (Value.int IntKind.i64 (↑(i + 1) : Int)))] [Ent.arr AM.ro [Col.int IntKind.i64 I.op, Col.int IntKind.i64 I.d, Col.int IntKind.i64 I.n, Col.int IntKind.i64 I.m, Col.int IntKind.i64 I.a, Col.int IntKind.i64 I.c, Col.int IntKind.i64 I.im] N t, Ent.no, Ent.arr (AM.grow 1) [Col.int IntKind.u8 b] (4 * (i + 1)) 5, Ent.no, Ent.arr (AM.grow 3) [Col.int IntKind.u32 fun j ↦ wordV (I.op j) (I.d j) (I.n j) (I.m j) (I.a j) (I.c j) (I.im j)] n 25]))
set_option maxRecDepth 1000000 in
theorem body1_eq (I : InsC) (n N : Nat) (t : TypeId) (b : Nat → Int) (i : Nat) (K : Ex → St → Prop) : evG Try.prog EB 40 (lft (subAt p1 (codeOf Try.prog 13))) (S1 I n N t b i) (fun e st => K e (gcSt 1 live st)) = body1_f I  n N  t  b  i  K := by kernel_rfl
def post1_f (I : InsC) (n N : Nat) (t : TypeId) (b : Nat → Int) (i : Nat) (K : Res → Sto → Prop) : Prop :=
K (Res.ret (V.tup [V.lse 2 1 1 0 (4 * (i + 1)), V.raw (Value.int IntKind.i64 0)])) [Ent.arr AM.ro [Col.int IntKind.i64 I.op, Col.int IntKind.i64 I.d, Col.int IntKind.i64 I.n, Col.int IntKind.i64 I.m, Col.int IntKind.i64 I.a, Col.int IntKind.i64 I.c, Col.int IntKind.i64 I.im] N t, Ent.no, Ent.arr (AM.grow 1) [Col.int IntKind.u8 b] (4 * (i + 1)) 5, Ent.no, Ent.arr (AM.grow 3) [Col.int IntKind.u32 fun j ↦ wordV (I.op j) (I.d j) (I.n j) (I.m j) (I.a j) (I.c j) (I.im j)] n 25]
set_option maxRecDepth 1000000 in
theorem post1_eq (I : InsC) (n N : Nat) (t : TypeId) (b : Nat → Int) (i : Nat) (K : Res → Sto → Prop) : evG Try.prog EB 40 c1 (S1 I n N t b i) (bodyK False Try.prog (funcOf Try.prog 13) K) = post1_f I  n N  t  b  i  K := by kernel_rfl
end Go.Proofs.Ytbjikmepfpkmjaa.encBytes
