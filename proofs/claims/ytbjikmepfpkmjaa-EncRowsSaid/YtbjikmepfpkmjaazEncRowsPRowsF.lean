/- formulas; printed by fm.py out of Rows.spec. -/
import Derived.Test.YtbjikmepfpkmjaazEncRowsPJoin
namespace Go.Proofs.Ytbjikmepfpkmjaa.encRows
open Go Go.Proofs Go.Proofs.YtbjikmepfpkmjaaRL  Go.Proofs.Ytbjikmepfpkmjaa.isa
set_option linter.unusedVariables false
noncomputable def EL : Eh := addE 12 Go.Proofs.Ytbjikmepfpkmjaa.encWords.wordsA (addE 13 Go.Proofs.Ytbjikmepfpkmjaa.encBytes.bytesA (specE 8 wordG noE))
def live : List Nat := [0,3,4,5]
def live2 : List Nat := [3,8,10,12]
noncomputable def p1 : List Nat := pathTo 8 (codeOf Try.prog 5)
noncomputable def c1 : Code := subAt (p1.dropLast.dropLast.dropLast ++ [0]) (codeOf Try.prog 5)
noncomputable def p2 : List Nat := pathTo 20 c1
noncomputable def c2 : Code := subAt (p2.dropLast.dropLast.dropLast ++ [0]) c1
def S0 (I : InsC) (n cap : Nat) : St := ⟨147, [(0, .sle 0 7 0 n cap), (3, .raw (.slice none 0 0)), (4, .raw (.int .i64 0)), (5, .raw (.int .i64 0))], [.arr .ro I.cols n 0]⟩
def S1 (I : InsC) (n cap : Nat) (b : Nat → Int) (e : Int) (i : Nat) : St := ⟨147, [(0, .sle 0 7 0 n cap), (3, .lse 2 1 1 0 (i + 1)), (4, .raw (.int .i64 e)), (5, .raw (.int .i64 (i + 1 : Nat)))], [.arr .ro I.cols n 0, .no, .arr (.grow 1) [.int .u32 b] (i + 1) 25]⟩
def S2 (I : InsC) (n : Nat) (b : Nat → Int) (k : Nat) : St := ⟨147, [(3, .lse 2 1 1 0 n), (8, .lse 4 3 1 0 n), (10, .lse 6 5 1 0 (4 * n)), (12, .raw (.int .i64 (k : Nat)))], [.arr .ro I.cols n 0, .no, .arr (.grow 1) [.int .u32 b] n 25, .no, .arr (.grow 3) [.int .u32 I.W] n 25, .no, .arr (.grow 5) [.int .u8 (Go.Proofs.Ytbjikmepfpkmjaa.encBytes.byteW I.W)] (4 * n) 5]⟩

def pre_f (I : InsC) (n cap : Nat) (K : Res → Sto → Prop) (Z : St → Prop) : Prop :=
(match decide ((↑n : Int) > 400) with
| true => K (Res.ret (V.raw (Value.bool true))) [Ent.arr AM.ro [Col.int IntKind.i64 I.op, Col.int IntKind.i64 I.d, Col.int IntKind.i64 I.n, Col.int IntKind.i64 I.m, Col.int IntKind.i64 I.a, Col.int IntKind.i64 I.c, Col.int IntKind.i64 I.im] n 0, Ent.own [V.raw (Value.int IntKind.i64 4), V.raw (Value.int IntKind.i64 0), V.raw (Value.int IntKind.i64 0), V.raw (Value.int IntKind.i64 0), V.raw (Value.int IntKind.i64 0), V.raw (Value.int IntKind.i64 0), V.raw (Value.int IntKind.i64 1)] 23, Ent.own [V.raw (Value.int IntKind.i64 4), V.raw (Value.int IntKind.i64 0), V.raw (Value.int IntKind.i64 0), V.raw (Value.int IntKind.i64 0), V.raw (Value.int IntKind.i64 0), V.raw (Value.int IntKind.i64 0), V.raw (Value.int IntKind.i64 1)] 23, Ent.own [V.raw (Value.int IntKind.i64 0), V.raw (Value.int IntKind.i64 0), V.raw (Value.int IntKind.i64 0), V.raw (Value.int IntKind.i64 0)] 3, Ent.own [V.raw (Value.int IntKind.i64 4), V.raw (Value.int IntKind.i64 0), V.raw (Value.int IntKind.i64 0), V.raw (Value.int IntKind.i64 0), V.raw (Value.int IntKind.i64 0), V.raw (Value.int IntKind.i64 0), V.raw (Value.int IntKind.i64 1)] 23, Ent.own [V.raw (Value.int IntKind.u32 2432697344)] 44, Ent.own [V.raw (Value.int IntKind.i64 4), V.raw (Value.int IntKind.i64 0), V.raw (Value.int IntKind.i64 0), V.raw (Value.int IntKind.i64 0), V.raw (Value.int IntKind.i64 0), V.raw (Value.int IntKind.i64 0), V.raw (Value.int IntKind.i64 1)] 23, Ent.own [V.raw (Value.int IntKind.i64 27), V.raw (Value.int IntKind.i64 0), V.raw (Value.int IntKind.i64 30), V.raw (Value.int IntKind.i64 0), V.raw (Value.int IntKind.i64 0), V.raw (Value.int IntKind.i64 0), V.raw (Value.int IntKind.i64 0)] 23, Ent.own [V.raw (Value.int IntKind.i64 27), V.raw (Value.int IntKind.i64 0), V.raw (Value.int IntKind.i64 30), V.raw (Value.int IntKind.i64 0), V.raw (Value.int IntKind.i64 0), V.raw (Value.int IntKind.i64 0), V.raw (Value.int IntKind.i64 0)] 23, Ent.own [V.raw (Value.int IntKind.i64 0), V.raw (Value.int IntKind.i64 30), V.raw (Value.int IntKind.i64 0), V.raw (Value.int IntKind.i64 0)] 3, Ent.own [V.raw (Value.int IntKind.i64 27), V.raw (Value.int IntKind.i64 0), V.raw (Value.int IntKind.i64 30), V.raw (Value.int IntKind.i64 0), V.raw (Value.int IntKind.i64 0), V.raw (Value.int IntKind.i64 0), V.raw (Value.int IntKind.i64 0)] 23, Ent.own [V.raw (Value.int IntKind.u32 3596551104)] 44, Ent.own [V.raw (Value.int IntKind.i64 27), V.raw (Value.int IntKind.i64 0), V.raw (Value.int IntKind.i64 30), V.raw (Value.int IntKind.i64 0), V.raw (Value.int IntKind.i64 0), V.raw (Value.int IntKind.i64 0), V.raw (Value.int IntKind.i64 0)] 23]
| false => Z (St.mk 147 [(0, V.sle 0 7 0 n cap), (3, V.raw (Value.slice none 0 0)), (4, V.raw (Value.int IntKind.i64 0)), (5, V.raw (Value.int IntKind.i64 0))] [Ent.arr AM.ro [Col.int IntKind.i64 I.op, Col.int IntKind.i64 I.d, Col.int IntKind.i64 I.n, Col.int IntKind.i64 I.m, Col.int IntKind.i64 I.a, Col.int IntKind.i64 I.c, Col.int IntKind.i64 I.im] n 0]))
set_option maxRecDepth 1000000 in
theorem pre_eq (I : InsC) (n cap : Nat) (K : Res → Sto → Prop) (Z : St → Prop) : evTo Try.prog EL 60 1 (fun st => Z (gcSt 1 live st)) p1 (codeOf Try.prog 5) ⟨(funcOf Try.prog 5).ntmps, zipArgs 0 [.sle 0 7 0 n cap], [.arr .ro I.cols n 0]⟩ (bodyK False Try.prog (funcOf Try.prog 5) K) = pre_f I  n cap  K  Z := by kernel_rfl
def body0_f (I : InsC) (n cap : Nat) (K : Ex → St → Prop) : Prop :=
(match decide (0 < (↑n : Int)) with
| true => (match decide (0 < (↑n : Int)) with
 | true => (match Nat.blt 0 n with
  | true => K Ex.normal (St.mk 147 [(0, V.sle 0 7 0 n cap), (3, V.lse 2 1 1 0 1), (4, V.raw (Value.int IntKind.i64 (chkV (I.op 0) (I.d 0) (I.n 0) (I.m 0) (I.a 0) (I.c 0) (I.im 0)))), (5, V.raw (Value.int IntKind.i64 1))] [Ent.arr AM.ro [Col.int IntKind.i64 I.op, Col.int IntKind.i64 I.d, Col.int IntKind.i64 I.n, Col.int IntKind.i64 I.m, Col.int IntKind.i64 I.a, Col.int IntKind.i64 I.c, Col.int IntKind.i64 I.im] n 0, Ent.no, Ent.arr (AM.grow 1) [Col.int IntKind.u32 fun j ↦ [wordV (I.op 0) (I.d 0) (I.n 0) (I.m 0) (I.a 0) (I.c 0) (I.im 0)].getD j 0] 1 25])
  | false => False)
 | false => False)
| false => K (Ex.exit 0) (St.mk 147 [(0, V.sle 0 7 0 n cap), (3, V.raw (Value.slice none 0 0)), (4, V.raw (Value.int IntKind.i64 0)), (5, V.raw (Value.int IntKind.i64 0))] [Ent.arr AM.ro [Col.int IntKind.i64 I.op, Col.int IntKind.i64 I.d, Col.int IntKind.i64 I.n, Col.int IntKind.i64 I.m, Col.int IntKind.i64 I.a, Col.int IntKind.i64 I.c, Col.int IntKind.i64 I.im] n 0]))
set_option maxRecDepth 1000000 in
theorem body0_eq (I : InsC) (n cap : Nat) (K : Ex → St → Prop) : evG Try.prog EL 60 (lft (subAt p1 (codeOf Try.prog 5))) (S0 I n cap) (fun e st => K e (gcSt 1 live st)) = body0_f I  n cap  K := by kernel_rfl
def body1_f (I : InsC) (n cap : Nat) (b : Nat → Int) (e : Int) (i : Nat) (K : Ex → St → Prop) : Prop :=
(match decide ((↑(i + 1) : Int) < (↑n : Int)) with
| true => (match e == 0 with
 | true => (match decide ((↑(i + 1) : Int) < (↑n : Int)) with
  | true => (match ((↑(i + 1) : Int).toNat + 0).blt n with
   | true => (match (i + 1).ble (i + 1) with
    | true => (match growOk (i + 1 + 1) 4 with
     | true => K Ex.normal (St.mk 147 [(0, V.sle 0 7 0 n cap), (3, V.lse 2 1 1 0 (i + 1 + 1)), (4, V.raw (Value.int IntKind.i64 (chkV (I.op ((↑(i + 1) : Int).toNat + 0)) (I.d ((↑(i + 1) : Int).toNat + 0)) (I.n ((↑(i + 1) : Int).toNat + 0)) (I.m ((↑(i + 1) : Int).toNat + 0)) (I.a ((↑(i + 1) : Int).toNat + 0)) (I.c ((↑(i + 1) : Int).toNat + 0)) (I.im ((↑(i + 1) : Int).toNat + 0))))), (5, V.raw (Value.int IntKind.i64 (IntKind.i64.wrap ((↑(i + 1) : Int) + 1))))] [Ent.arr AM.ro [Col.int IntKind.i64 I.op, Col.int IntKind.i64 I.d, Col.int IntKind.i64 I.n, Col.int IntKind.i64 I.m, Col.int IntKind.i64 I.a, Col.int IntKind.i64 I.c, Col.int IntKind.i64 I.im] n 0, Ent.no, Ent.arr (AM.grow 1) [Col.int IntKind.u32 fun j ↦ match j.blt (i + 1) with | true => b j | false => [wordV (I.op ((↑(i + 1) : Int).toNat + 0)) (I.d ((↑(i + 1) : Int).toNat + 0)) (I.n ((↑(i + 1) : Int).toNat + 0)) (I.m ((↑(i + 1) : Int).toNat + 0)) (I.a ((↑(i + 1) : Int).toNat + 0)) (I.c ((↑(i + 1) : Int).toNat + 0)) (I.im ((↑(i + 1) : Int).toNat + 0))].getD (j - (i + 1)) 0] (i + 1 + 1) 25])
     | false => False)
    | false => False)
   | false => False)
  | false => False)
 | false => K (Ex.exit 0) (St.mk 147 [(0, V.sle 0 7 0 n cap), (3, V.lse 2 1 1 0 (i + 1)), (4, V.raw (Value.int IntKind.i64 e)), (5, V.raw (Value.int IntKind.i64 (↑(i + 1) : Int)))] [Ent.arr AM.ro [Col.int IntKind.i64 I.op, Col.int IntKind.i64 I.d, Col.int IntKind.i64 I.n, Col.int IntKind.i64 I.m, Col.int IntKind.i64 I.a, Col.int IntKind.i64 I.c, Col.int IntKind.i64 I.im] n 0, Ent.no, Ent.arr (AM.grow 1) [Col.int IntKind.u32 b] (i + 1) 25]))
| false => K (Ex.exit 0) (St.mk 147 [(0, V.sle 0 7 0 n cap), (3, V.lse 2 1 1 0 (i + 1)), (4, V.raw (Value.int IntKind.i64 e)), (5, V.raw (Value.int IntKind.i64 (↑(i + 1) : Int)))] [Ent.arr AM.ro [Col.int IntKind.i64 I.op, Col.int IntKind.i64 I.d, Col.int IntKind.i64 I.n, Col.int IntKind.i64 I.m, Col.int IntKind.i64 I.a, Col.int IntKind.i64 I.c, Col.int IntKind.i64 I.im] n 0, Ent.no, Ent.arr (AM.grow 1) [Col.int IntKind.u32 b] (i + 1) 25]))
set_option maxRecDepth 1000000 in
theorem body1_eq (I : InsC) (n cap : Nat) (b : Nat → Int) (e : Int) (i : Nat) (K : Ex → St → Prop) : evG Try.prog EL 60 (lft (subAt p1 (codeOf Try.prog 5))) (S1 I n cap b e i) (fun e st => K e (gcSt 1 live st)) = body1_f I  n cap  b  e  i  K := by kernel_rfl
def mid_f (I : InsC) (n cap : Nat) (b : Nat → Int) (e : Int) (i : Nat) (K : Res → Sto → Prop) (Z : St → Prop) : Prop :=
(match n.ble n with
| true => (match n.ble 1000000 with
 | true => (match n.beq 0 with
  | true => False
  | false => (match decide (I.all n) with
   | true => (match n.ble n with
    | true => (match n.ble 200000 with
     | true => (match n.beq 0 with
      | true => False
      | false => (match decide (I.all n) with
       | true => (match e != 0 with
        | true => (match 0 == e with
         | true => (match 0 == e with
          | true => (match (↑n : Int) == 0 with
           | true => K (Res.ret (V.raw (Value.bool ((↑(4 * n) : Int) == 0)))) [Ent.arr AM.ro [Col.int IntKind.i64 I.op, Col.int IntKind.i64 I.d, Col.int IntKind.i64 I.n, Col.int IntKind.i64 I.m, Col.int IntKind.i64 I.a, Col.int IntKind.i64 I.c, Col.int IntKind.i64 I.im] n 0, Ent.no, Ent.arr (AM.grow 1) [Col.int IntKind.u32 b] (i + 1) 25, Ent.no, Ent.arr (AM.grow 3) [Col.int IntKind.u32 fun j ↦ wordV (I.op j) (I.d j) (I.n j) (I.m j) (I.a j) (I.c j) (I.im j)] n 25, Ent.no, Ent.arr (AM.grow 5) [Col.int IntKind.u8 fun j ↦ I.W (j / 4) / (↑(256 ^ (j % 4)) : Int) % 256] (4 * n) 5]
           | false => K (Res.ret (V.raw (Value.bool false))) [Ent.arr AM.ro [Col.int IntKind.i64 I.op, Col.int IntKind.i64 I.d, Col.int IntKind.i64 I.n, Col.int IntKind.i64 I.m, Col.int IntKind.i64 I.a, Col.int IntKind.i64 I.c, Col.int IntKind.i64 I.im] n 0, Ent.no, Ent.arr (AM.grow 1) [Col.int IntKind.u32 b] (i + 1) 25, Ent.no, Ent.arr (AM.grow 3) [Col.int IntKind.u32 fun j ↦ wordV (I.op j) (I.d j) (I.n j) (I.m j) (I.a j) (I.c j) (I.im j)] n 25, Ent.no, Ent.arr (AM.grow 5) [Col.int IntKind.u8 fun j ↦ I.W (j / 4) / (↑(256 ^ (j % 4)) : Int) % 256] (4 * n) 5])
          | false => K (Res.ret (V.raw (Value.bool false))) [Ent.arr AM.ro [Col.int IntKind.i64 I.op, Col.int IntKind.i64 I.d, Col.int IntKind.i64 I.n, Col.int IntKind.i64 I.m, Col.int IntKind.i64 I.a, Col.int IntKind.i64 I.c, Col.int IntKind.i64 I.im] n 0, Ent.no, Ent.arr (AM.grow 1) [Col.int IntKind.u32 b] (i + 1) 25, Ent.no, Ent.arr (AM.grow 3) [Col.int IntKind.u32 fun j ↦ wordV (I.op j) (I.d j) (I.n j) (I.m j) (I.a j) (I.c j) (I.im j)] n 25, Ent.no, Ent.arr (AM.grow 5) [Col.int IntKind.u8 fun j ↦ I.W (j / 4) / (↑(256 ^ (j % 4)) : Int) % 256] (4 * n) 5])
         | false => K (Res.ret (V.raw (Value.bool false))) [Ent.arr AM.ro [Col.int IntKind.i64 I.op, Col.int IntKind.i64 I.d, Col.int IntKind.i64 I.n, Col.int IntKind.i64 I.m, Col.int IntKind.i64 I.a, Col.int IntKind.i64 I.c, Col.int IntKind.i64 I.im] n 0, Ent.no, Ent.arr (AM.grow 1) [Col.int IntKind.u32 b] (i + 1) 25, Ent.no, Ent.arr (AM.grow 3) [Col.int IntKind.u32 fun j ↦ wordV (I.op j) (I.d j) (I.n j) (I.m j) (I.a j) (I.c j) (I.im j)] n 25, Ent.no, Ent.arr (AM.grow 5) [Col.int IntKind.u8 fun j ↦ I.W (j / 4) / (↑(256 ^ (j % 4)) : Int) % 256] (4 * n) 5])
        | false => (match (↑n : Int) != (↑(i + 1) : Int) with
         | true => K (Res.ret (V.raw (Value.bool false))) [Ent.arr AM.ro [Col.int IntKind.i64 I.op, Col.int IntKind.i64 I.d, Col.int IntKind.i64 I.n, Col.int IntKind.i64 I.m, Col.int IntKind.i64 I.a, Col.int IntKind.i64 I.c, Col.int IntKind.i64 I.im] n 0, Ent.no, Ent.arr (AM.grow 1) [Col.int IntKind.u32 b] (i + 1) 25, Ent.no, Ent.arr (AM.grow 3) [Col.int IntKind.u32 fun j ↦ wordV (I.op j) (I.d j) (I.n j) (I.m j) (I.a j) (I.c j) (I.im j)] n 25, Ent.no, Ent.arr (AM.grow 5) [Col.int IntKind.u8 fun j ↦ I.W (j / 4) / (↑(256 ^ (j % 4)) : Int) % 256] (4 * n) 5]
         | false => (match (↑(4 * n) : Int) != IntKind.i64.wrap (4 * (↑(i + 1) : Int)) with
          | true => K (Res.ret (V.raw (Value.bool false))) [Ent.arr AM.ro [Col.int IntKind.i64 I.op, Col.int IntKind.i64 I.d, Col.int IntKind.i64 I.n, Col.int IntKind.i64 I.m, Col.int IntKind.i64 I.a, Col.int IntKind.i64 I.c, Col.int IntKind.i64 I.im] n 0, Ent.no, Ent.arr (AM.grow 1) [Col.int IntKind.u32 b] (i + 1) 25, Ent.no, Ent.arr (AM.grow 3) [Col.int IntKind.u32 fun j ↦ wordV (I.op j) (I.d j) (I.n j) (I.m j) (I.a j) (I.c j) (I.im j)] n 25, Ent.no, Ent.arr (AM.grow 5) [Col.int IntKind.u8 fun j ↦ I.W (j / 4) / (↑(256 ^ (j % 4)) : Int) % 256] (4 * n) 5]
          | false => Z (St.mk 147 [(3, V.lse 2 1 1 0 (i + 1)), (8, V.lse 4 3 1 0 n), (10, V.lse 6 5 1 0 (4 * n)), (12, V.raw (Value.int IntKind.i64 0))] [Ent.arr AM.ro [Col.int IntKind.i64 I.op, Col.int IntKind.i64 I.d, Col.int IntKind.i64 I.n, Col.int IntKind.i64 I.m, Col.int IntKind.i64 I.a, Col.int IntKind.i64 I.c, Col.int IntKind.i64 I.im] n 0, Ent.no, Ent.arr (AM.grow 1) [Col.int IntKind.u32 b] (i + 1) 25, Ent.no, Ent.arr (AM.grow 3) [Col.int IntKind.u32 fun j ↦ wordV (I.op j) (I.d j) (I.n j) (I.m j) (I.a j) (I.c j) (I.im j)] n 25, Ent.no, Ent.arr (AM.grow 5) [Col.int IntKind.u8 fun j ↦ I.W (j / 4) / (↑(256 ^ (j % 4)) : Int) % 256] (4 * n) 5]))))
       | false => (match e != 0 with
        | true => (match 0 == e with
         | true => (match 1 == e with
          | true => (match (↑n : Int) == 0 with
           | true => K (Res.ret (V.raw (Value.bool true))) [Ent.arr AM.ro [Col.int IntKind.i64 I.op, Col.int IntKind.i64 I.d, Col.int IntKind.i64 I.n, Col.int IntKind.i64 I.m, Col.int IntKind.i64 I.a, Col.int IntKind.i64 I.c, Col.int IntKind.i64 I.im] n 0, Ent.no, Ent.arr (AM.grow 1) [Col.int IntKind.u32 b] (i + 1) 25, Ent.no, Ent.arr (AM.grow 3) [Col.int IntKind.u32 fun j ↦ wordV (I.op j) (I.d j) (I.n j) (I.m j) (I.a j) (I.c j) (I.im j)] n 25]
           | false => K (Res.ret (V.raw (Value.bool false))) [Ent.arr AM.ro [Col.int IntKind.i64 I.op, Col.int IntKind.i64 I.d, Col.int IntKind.i64 I.n, Col.int IntKind.i64 I.m, Col.int IntKind.i64 I.a, Col.int IntKind.i64 I.c, Col.int IntKind.i64 I.im] n 0, Ent.no, Ent.arr (AM.grow 1) [Col.int IntKind.u32 b] (i + 1) 25, Ent.no, Ent.arr (AM.grow 3) [Col.int IntKind.u32 fun j ↦ wordV (I.op j) (I.d j) (I.n j) (I.m j) (I.a j) (I.c j) (I.im j)] n 25])
          | false => K (Res.ret (V.raw (Value.bool false))) [Ent.arr AM.ro [Col.int IntKind.i64 I.op, Col.int IntKind.i64 I.d, Col.int IntKind.i64 I.n, Col.int IntKind.i64 I.m, Col.int IntKind.i64 I.a, Col.int IntKind.i64 I.c, Col.int IntKind.i64 I.im] n 0, Ent.no, Ent.arr (AM.grow 1) [Col.int IntKind.u32 b] (i + 1) 25, Ent.no, Ent.arr (AM.grow 3) [Col.int IntKind.u32 fun j ↦ wordV (I.op j) (I.d j) (I.n j) (I.m j) (I.a j) (I.c j) (I.im j)] n 25])
         | false => K (Res.ret (V.raw (Value.bool false))) [Ent.arr AM.ro [Col.int IntKind.i64 I.op, Col.int IntKind.i64 I.d, Col.int IntKind.i64 I.n, Col.int IntKind.i64 I.m, Col.int IntKind.i64 I.a, Col.int IntKind.i64 I.c, Col.int IntKind.i64 I.im] n 0, Ent.no, Ent.arr (AM.grow 1) [Col.int IntKind.u32 b] (i + 1) 25, Ent.no, Ent.arr (AM.grow 3) [Col.int IntKind.u32 fun j ↦ wordV (I.op j) (I.d j) (I.n j) (I.m j) (I.a j) (I.c j) (I.im j)] n 25])
        | false => K (Res.ret (V.raw (Value.bool false))) [Ent.arr AM.ro [Col.int IntKind.i64 I.op, Col.int IntKind.i64 I.d, Col.int IntKind.i64 I.n, Col.int IntKind.i64 I.m, Col.int IntKind.i64 I.a, Col.int IntKind.i64 I.c, Col.int IntKind.i64 I.im] n 0, Ent.no, Ent.arr (AM.grow 1) [Col.int IntKind.u32 b] (i + 1) 25, Ent.no, Ent.arr (AM.grow 3) [Col.int IntKind.u32 fun j ↦ wordV (I.op j) (I.d j) (I.n j) (I.m j) (I.a j) (I.c j) (I.im j)] n 25])))
     | false => False)
    | false => False)
   | false => (match n.ble n with
    | true => (match n.ble 200000 with
     | true => (match n.beq 0 with
      | true => False
      | false => (match decide (I.all n) with
       | true => (match e != 0 with
        | true => (match 1 == e with
         | true => (match 0 == e with
          | true => K (Res.ret (V.raw (Value.bool ((↑(4 * n) : Int) == 0)))) [Ent.arr AM.ro [Col.int IntKind.i64 I.op, Col.int IntKind.i64 I.d, Col.int IntKind.i64 I.n, Col.int IntKind.i64 I.m, Col.int IntKind.i64 I.a, Col.int IntKind.i64 I.c, Col.int IntKind.i64 I.im] n 0, Ent.no, Ent.arr (AM.grow 1) [Col.int IntKind.u32 b] (i + 1) 25, Ent.no, Ent.arr (AM.grow 3) [Col.int IntKind.u8 fun j ↦ I.W (j / 4) / (↑(256 ^ (j % 4)) : Int) % 256] (4 * n) 5]
          | false => K (Res.ret (V.raw (Value.bool false))) [Ent.arr AM.ro [Col.int IntKind.i64 I.op, Col.int IntKind.i64 I.d, Col.int IntKind.i64 I.n, Col.int IntKind.i64 I.m, Col.int IntKind.i64 I.a, Col.int IntKind.i64 I.c, Col.int IntKind.i64 I.im] n 0, Ent.no, Ent.arr (AM.grow 1) [Col.int IntKind.u32 b] (i + 1) 25, Ent.no, Ent.arr (AM.grow 3) [Col.int IntKind.u8 fun j ↦ I.W (j / 4) / (↑(256 ^ (j % 4)) : Int) % 256] (4 * n) 5])
         | false => K (Res.ret (V.raw (Value.bool false))) [Ent.arr AM.ro [Col.int IntKind.i64 I.op, Col.int IntKind.i64 I.d, Col.int IntKind.i64 I.n, Col.int IntKind.i64 I.m, Col.int IntKind.i64 I.a, Col.int IntKind.i64 I.c, Col.int IntKind.i64 I.im] n 0, Ent.no, Ent.arr (AM.grow 1) [Col.int IntKind.u32 b] (i + 1) 25, Ent.no, Ent.arr (AM.grow 3) [Col.int IntKind.u8 fun j ↦ I.W (j / 4) / (↑(256 ^ (j % 4)) : Int) % 256] (4 * n) 5])
        | false => K (Res.ret (V.raw (Value.bool false))) [Ent.arr AM.ro [Col.int IntKind.i64 I.op, Col.int IntKind.i64 I.d, Col.int IntKind.i64 I.n, Col.int IntKind.i64 I.m, Col.int IntKind.i64 I.a, Col.int IntKind.i64 I.c, Col.int IntKind.i64 I.im] n 0, Ent.no, Ent.arr (AM.grow 1) [Col.int IntKind.u32 b] (i + 1) 25, Ent.no, Ent.arr (AM.grow 3) [Col.int IntKind.u8 fun j ↦ I.W (j / 4) / (↑(256 ^ (j % 4)) : Int) % 256] (4 * n) 5])
       | false => (match e != 0 with
        | true => (match 1 == e with
         | true => (match 1 == e with
          | true => K (Res.ret (V.raw (Value.bool true))) [Ent.arr AM.ro [Col.int IntKind.i64 I.op, Col.int IntKind.i64 I.d, Col.int IntKind.i64 I.n, Col.int IntKind.i64 I.m, Col.int IntKind.i64 I.a, Col.int IntKind.i64 I.c, Col.int IntKind.i64 I.im] n 0, Ent.no, Ent.arr (AM.grow 1) [Col.int IntKind.u32 b] (i + 1) 25]
          | false => K (Res.ret (V.raw (Value.bool false))) [Ent.arr AM.ro [Col.int IntKind.i64 I.op, Col.int IntKind.i64 I.d, Col.int IntKind.i64 I.n, Col.int IntKind.i64 I.m, Col.int IntKind.i64 I.a, Col.int IntKind.i64 I.c, Col.int IntKind.i64 I.im] n 0, Ent.no, Ent.arr (AM.grow 1) [Col.int IntKind.u32 b] (i + 1) 25])
         | false => K (Res.ret (V.raw (Value.bool false))) [Ent.arr AM.ro [Col.int IntKind.i64 I.op, Col.int IntKind.i64 I.d, Col.int IntKind.i64 I.n, Col.int IntKind.i64 I.m, Col.int IntKind.i64 I.a, Col.int IntKind.i64 I.c, Col.int IntKind.i64 I.im] n 0, Ent.no, Ent.arr (AM.grow 1) [Col.int IntKind.u32 b] (i + 1) 25])
        | false => K (Res.ret (V.raw (Value.bool false))) [Ent.arr AM.ro [Col.int IntKind.i64 I.op, Col.int IntKind.i64 I.d, Col.int IntKind.i64 I.n, Col.int IntKind.i64 I.m, Col.int IntKind.i64 I.a, Col.int IntKind.i64 I.c, Col.int IntKind.i64 I.im] n 0, Ent.no, Ent.arr (AM.grow 1) [Col.int IntKind.u32 b] (i + 1) 25])))
     | false => False)
    | false => False)))
 | false => False)
| false => False)
set_option maxRecDepth 1000000 in
theorem mid_eq (I : InsC) (n cap : Nat) (b : Nat → Int) (e : Int) (i : Nat) (K : Res → Sto → Prop) (Z : St → Prop) : evTo Try.prog EL 60 1 (fun st => Z (gcSt 1 live2 st)) p2 c1 (S1 I n cap b e i) (bodyK False Try.prog (funcOf Try.prog 5) K) = mid_f I  n cap  b  e  i  K  Z := by kernel_rfl
def body2_f (I : InsC) (n : Nat) (b : Nat → Int) (k : Nat) (K : Ex → St → Prop) : Prop :=
(match decide ((↑k : Int) < (↑n : Int)) with
| true => (match decide ((↑k : Int) < (↑n : Int)) with
 | true => (match ((↑k : Int).toNat + 0).blt n with
  | true => (match decide ((↑k : Int) < (↑n : Int)) with
   | true => (match ((↑k : Int).toNat + 0).blt n with
    | true => (match I.W ((↑k : Int).toNat + 0) != b ((↑k : Int).toNat + 0) with
     | true => K Ex.ret (St.mk 147 [(3, V.lse 2 1 1 0 n), (8, V.lse 4 3 1 0 n), (10, V.lse 6 5 1 0 (4 * n)), (12, V.raw (Value.int IntKind.i64 (↑k : Int)))] [Ent.arr AM.ro [Col.int IntKind.i64 I.op, Col.int IntKind.i64 I.d, Col.int IntKind.i64 I.n, Col.int IntKind.i64 I.m, Col.int IntKind.i64 I.a, Col.int IntKind.i64 I.c, Col.int IntKind.i64 I.im] n 0, Ent.no, Ent.arr (AM.grow 1) [Col.int IntKind.u32 b] n 25, Ent.no, Ent.arr (AM.grow 3) [Col.int IntKind.u32 fun j ↦ wordV (I.op j) (I.d j) (I.n j) (I.m j) (I.a j) (I.c j) (I.im j)] n 25, Ent.no, Ent.arr (AM.grow 5) [Col.int IntKind.u8 fun j ↦ I.W (j / 4) / (↑(256 ^ (j % 4)) : Int) % 256] (4 * n) 5])
     | false => (match decide (0 ≤ IntKind.i64.wrap (4 * (↑k : Int))) with
      | true => (match decide (IntKind.i64.wrap (4 * (↑k : Int)) < (↑(4 * n) : Int)) with
       | true => (match ((IntKind.i64.wrap (4 * (↑k : Int))).toNat + 0).blt (4 * n) with
        | true => (match decide (0 ≤ IntKind.i64.wrap (IntKind.i64.wrap (4 * (↑k : Int)) + 1)) with
         | true => (match decide (IntKind.i64.wrap (IntKind.i64.wrap (4 * (↑k : Int)) + 1) < (↑(4 * n) : Int)) with
          | true => (match ((IntKind.i64.wrap (IntKind.i64.wrap (4 * (↑k : Int)) + 1)).toNat + 0).blt (4 * n) with
           | true => (match decide (0 ≤ IntKind.i64.wrap (IntKind.i64.wrap (4 * (↑k : Int)) + 2)) with
            | true => (match decide (IntKind.i64.wrap (IntKind.i64.wrap (4 * (↑k : Int)) + 2) < (↑(4 * n) : Int)) with
             | true => (match ((IntKind.i64.wrap (IntKind.i64.wrap (4 * (↑k : Int)) + 2)).toNat + 0).blt (4 * n) with
              | true => (match decide (0 ≤ IntKind.i64.wrap (IntKind.i64.wrap (4 * (↑k : Int)) + 3)) with
               | true => (match decide (IntKind.i64.wrap (IntKind.i64.wrap (4 * (↑k : Int)) + 3) < (↑(4 * n) : Int)) with
                | true => (match ((IntKind.i64.wrap (IntKind.i64.wrap (4 * (↑k : Int)) + 3)).toNat + 0).blt (4 * n) with
                 | true => (match decide ((↑k : Int) < (↑n : Int)) with
                  | true => (match ((↑k : Int).toNat + 0).blt n with
                   | true => (match bits BinOp.or IntKind.u32 (bits BinOp.or IntKind.u32 (bits BinOp.or IntKind.u32 (IntKind.u32.wrap (Ytbjikmepfpkmjaa.encBytes.byteW I.W ((IntKind.i64.wrap (4 * (↑k : Int))).toNat + 0))) (IntKind.u32.wrap (IntKind.u32.wrap (Ytbjikmepfpkmjaa.encBytes.byteW I.W ((IntKind.i64.wrap (IntKind.i64.wrap (4 * (↑k : Int)) + 1)).toNat + 0)) * 256))) (IntKind.u32.wrap (IntKind.u32.wrap (Ytbjikmepfpkmjaa.encBytes.byteW I.W ((IntKind.i64.wrap (IntKind.i64.wrap (4 * (↑k : Int)) + 2)).toNat + 0)) * 65536))) (IntKind.u32.wrap (IntKind.u32.wrap (Ytbjikmepfpkmjaa.encBytes.byteW I.W ((IntKind.i64.wrap (IntKind.i64.wrap (4 * (↑k : Int)) + 3)).toNat + 0)) * 16777216)) != b ((↑k : Int).toNat + 0) with
                    | true => K Ex.ret (St.mk 147 [(3, V.lse 2 1 1 0 n), (8, V.lse 4 3 1 0 n), (10, V.lse 6 5 1 0 (4 * n)), (12, V.raw (Value.int IntKind.i64 (↑k : Int)))] [Ent.arr AM.ro [Col.int IntKind.i64 I.op, Col.int IntKind.i64 I.d, Col.int IntKind.i64 I.n, Col.int IntKind.i64 I.m, Col.int IntKind.i64 I.a, Col.int IntKind.i64 I.c, Col.int IntKind.i64 I.im] n 0, Ent.no, Ent.arr (AM.grow 1) [Col.int IntKind.u32 b] n 25, Ent.no, Ent.arr (AM.grow 3) [Col.int IntKind.u32 fun j ↦ wordV (I.op j) (I.d j) (I.n j) (I.m j) (I.a j) (I.c j) (I.im j)] n 25, Ent.no, Ent.arr (AM.grow 5) [Col.int IntKind.u8 fun j ↦ I.W (j / 4) / (↑(256 ^ (j % 4)) : Int) % 256] (4 * n) 5])
                    | false => K Ex.normal (St.mk 147 [(3, V.lse 2 1 1 0 n), (8, V.lse 4 3 1 0 n), (10, V.lse 6 5 1 0 (4 * n)), (12, V.raw (Value.int IntKind.i64 (IntKind.i64.wrap ((↑k : Int) + 1))))] [Ent.arr AM.ro [Col.int IntKind.i64 I.op, Col.int IntKind.i64 I.d, Col.int IntKind.i64 I.n, Col.int IntKind.i64 I.m, Col.int IntKind.i64 I.a, Col.int IntKind.i64 I.c, Col.int IntKind.i64 I.im] n 0, Ent.no, Ent.arr (AM.grow 1) [Col.int IntKind.u32 b] n 25, Ent.no, Ent.arr (AM.grow 3) [Col.int IntKind.u32 fun j ↦ wordV (I.op j) (I.d j) (I.n j) (I.m j) (I.a j) (I.c j) (I.im j)] n 25, Ent.no, Ent.arr (AM.grow 5) [Col.int IntKind.u8 fun j ↦ I.W (j / 4) / (↑(256 ^ (j % 4)) : Int) % 256] (4 * n) 5]))
                   | false => False)
                  | false => False)
                 | false => False)
                | false => False)
               | false => False)
              | false => False)
             | false => False)
            | false => False)
           | false => False)
          | false => False)
         | false => False)
        | false => False)
       | false => False)
      | false => False))
    | false => False)
   | false => False)
  | false => False)
 | false => False)
| false => K (Ex.exit 2) (St.mk 147 [(3, V.lse 2 1 1 0 n), (8, V.lse 4 3 1 0 n), (10, V.lse 6 5 1 0 (4 * n)), (12, V.raw (Value.int IntKind.i64 (↑k : Int)))] [Ent.arr AM.ro [Col.int IntKind.i64 I.op, Col.int IntKind.i64 I.d, Col.int IntKind.i64 I.n, Col.int IntKind.i64 I.m, Col.int IntKind.i64 I.a, Col.int IntKind.i64 I.c, Col.int IntKind.i64 I.im] n 0, Ent.no, Ent.arr (AM.grow 1) [Col.int IntKind.u32 b] n 25, Ent.no, Ent.arr (AM.grow 3) [Col.int IntKind.u32 fun j ↦ wordV (I.op j) (I.d j) (I.n j) (I.m j) (I.a j) (I.c j) (I.im j)] n 25, Ent.no, Ent.arr (AM.grow 5) [Col.int IntKind.u8 fun j ↦ I.W (j / 4) / (↑(256 ^ (j % 4)) : Int) % 256] (4 * n) 5]))
set_option maxRecDepth 1000000 in
theorem body2_eq (I : InsC) (n : Nat) (b : Nat → Int) (k : Nat) (K : Ex → St → Prop) : evG Try.prog EL 60 (lft (subAt p2 c1)) (S2 I n b k) (fun e st => K e (gcSt 1 live2 st)) = body2_f I  n  b  k  K := by kernel_rfl
def post_f (I : InsC) (n : Nat) (b : Nat → Int) (k : Nat) (K : Res → Sto → Prop) : Prop :=
K (Res.ret (V.raw (Value.bool true))) [Ent.arr AM.ro [Col.int IntKind.i64 I.op, Col.int IntKind.i64 I.d, Col.int IntKind.i64 I.n, Col.int IntKind.i64 I.m, Col.int IntKind.i64 I.a, Col.int IntKind.i64 I.c, Col.int IntKind.i64 I.im] n 0, Ent.no, Ent.arr (AM.grow 1) [Col.int IntKind.u32 b] n 25, Ent.no, Ent.arr (AM.grow 3) [Col.int IntKind.u32 fun j ↦ wordV (I.op j) (I.d j) (I.n j) (I.m j) (I.a j) (I.c j) (I.im j)] n 25, Ent.no, Ent.arr (AM.grow 5) [Col.int IntKind.u8 fun j ↦ I.W (j / 4) / (↑(256 ^ (j % 4)) : Int) % 256] (4 * n) 5]
set_option maxRecDepth 1000000 in
theorem post_eq (I : InsC) (n : Nat) (b : Nat → Int) (k : Nat) (K : Res → Sto → Prop) : evG Try.prog EL 60 c2 (S2 I n b k) (bodyK False Try.prog (funcOf Try.prog 5) K) = post_f I  n  b  k  K := by kernel_rfl
end Go.Proofs.Ytbjikmepfpkmjaa.encRows
