/- formulas; printed by fm.py out of Words.spec. -/
import Derived.Test.YtbjikmepfpkmjaazEncRowsIIns
import Derived.Test.YtbjikmepfpkmjaazEncRowsRLRow4
namespace Go.Proofs.Ytbjikmepfpkmjaa.encWords
open Go Go.Proofs Go.Proofs.YtbjikmepfpkmjaaRL  Go.Proofs.Ytbjikmepfpkmjaa.isa
set_option linter.unusedVariables false
noncomputable def EW : Eh := specE 7 wordG noE
def live : List Nat := [2,3,4,9,10,11]
noncomputable def p1 : List Nat := pathTo 3 (codeOf Try.prog 12)
noncomputable def c1 : Code := subAt (p1.dropLast.dropLast.dropLast ++ [0]) (codeOf Try.prog 12)
def S0 (I : InsC) (n N cap : Nat) (t : TypeId) : St := ⟨29, [(2, .raw (.slice none 0 0)), (3, .raw (.int .i64 0)), (4, .raw (.slice none 0 0)), (9, .sle 0 7 0 n cap), (10, .raw (.int .i64 (n : Nat))), (11, .raw (.int .i64 0))], [.arr .ro I.cols N t]⟩
def S1 (I : InsC) (n N cap : Nat) (t : TypeId) (b : Nat → Int) (i : Nat) : St := ⟨29, [(2, .raw (.slice none 0 0)), (3, .raw (.int .i64 0)), (4, .lse 2 1 1 0 (i + 1)), (9, .sle 0 7 0 n cap), (10, .raw (.int .i64 (n : Nat))), (11, .raw (.int .i64 (i + 1 : Nat)))], [.arr .ro I.cols N t, .no, .arr (.grow 1) [.int .u32 b] (i + 1) 25]⟩

def pre_f (I : InsC) (n N cap : Nat) (t : TypeId) (K : Res → Sto → Prop) (Z : St → Prop) : Prop :=
Z { n := 29, t := [(2, V.raw (Value.slice none 0 0)), (3, V.raw (Value.int IntKind.i64 0)), (4, V.raw (Value.slice none 0 0)), (9, V.sle 0 7 0 n cap), (10, V.raw (Value.int IntKind.i64 (↑n : Int))), (11, V.raw (Value.int IntKind.i64 0))], s := [Ent.arr AM.ro [Col.int IntKind.i64 I.op, Col.int IntKind.i64 I.d, Col.int IntKind.i64 I.n, Col.int IntKind.i64 I.m, Col.int IntKind.i64 I.a, Col.int IntKind.i64 I.c, Col.int IntKind.i64 I.im] N t] }
set_option maxRecDepth 1000000 in
theorem pre_eq (I : InsC) (n N cap : Nat) (t : TypeId) (K : Res → Sto → Prop) (Z : St → Prop) : evTo Try.prog EW 40 1 (fun st => Z (gcSt 1 live st)) p1 (codeOf Try.prog 12) ⟨(funcOf Try.prog 12).ntmps, zipArgs 0 [.sle 0 7 0 n cap], [.arr .ro I.cols N t]⟩ (bodyK False Try.prog (funcOf Try.prog 12) K) = pre_f I  n N cap  t  K  Z := by kernel_rfl
def body0_f (I : InsC) (n N cap : Nat) (t : TypeId) (K : Ex → St → Prop) : Prop :=
(match decide (0 < (↑n : Int)) with
| true => (match decide (0 < (↑n : Int)) with
 | true => (match Nat.blt 0 N with
  | true => (match chkV (I.op 0) (I.d 0) (I.n 0) (I.m 0) (I.a 0) (I.c 0) (I.im 0) != 0 with
   | true => K Ex.ret { n := 29, t := [(2, V.raw (Value.slice none 0 0)), (3, V.raw (Value.int IntKind.i64 (chkV (I.op 0) (I.d 0) (I.n 0) (I.m 0) (I.a 0) (I.c 0) (I.im 0)))), (4, V.raw (Value.slice none 0 0)), (9, V.sle 0 7 0 n cap), (10, V.raw (Value.int IntKind.i64 (↑n : Int))), (11, V.raw (Value.int IntKind.i64 0))], s := [Ent.arr AM.ro [Col.int IntKind.i64 I.op, Col.int IntKind.i64 I.d, Col.int IntKind.i64 I.n, Col.int IntKind.i64 I.m, Col.int IntKind.i64 I.a, Col.int IntKind.i64 I.c, Col.int IntKind.i64 I.im] N t] }
   | false => K Ex.normal { n := 29, t := [(2, V.raw (Value.slice none 0 0)), (3, V.raw (Value.int IntKind.i64 0)), (4, V.lse 2 1 1 0 1), (9, V.sle 0 7 0 n cap), (10, V.raw (Value.int IntKind.i64 (↑n : Int))), (11, V.raw (Value.int IntKind.i64 1))], s := [Ent.arr AM.ro [Col.int IntKind.i64 I.op, Col.int IntKind.i64 I.d, Col.int IntKind.i64 I.n, Col.int IntKind.i64 I.m, Col.int IntKind.i64 I.a, Col.int IntKind.i64 I.c, Col.int IntKind.i64 I.im] N t, Ent.no, Ent.arr (AM.grow 1) [Col.int IntKind.u32 fun j ↦ [wordV (I.op 0) (I.d 0) (I.n 0) (I.m 0) (I.a 0) (I.c 0) (I.im 0)].getD j 0] 1 25] })
  | false => False)
 | false => False)
| false => K (Ex.exit 0) { n := 29, t := [(2, V.raw (Value.slice none 0 0)), (3, V.raw (Value.int IntKind.i64 0)), (4, V.raw (Value.slice none 0 0)), (9, V.sle 0 7 0 n cap), (10, V.raw (Value.int IntKind.i64 (↑n : Int))), (11, V.raw (Value.int IntKind.i64 0))], s := [Ent.arr AM.ro [Col.int IntKind.i64 I.op, Col.int IntKind.i64 I.d, Col.int IntKind.i64 I.n, Col.int IntKind.i64 I.m, Col.int IntKind.i64 I.a, Col.int IntKind.i64 I.c, Col.int IntKind.i64 I.im] N t] })
set_option maxRecDepth 1000000 in
theorem body0_eq (I : InsC) (n N cap : Nat) (t : TypeId) (K : Ex → St → Prop) : evG Try.prog EW 40 (lft (subAt p1 (codeOf Try.prog 12))) (S0 I n N cap t) (fun e st => K e (gcSt 1 live st)) = body0_f I  n N cap  t  K := by kernel_rfl
def body1_f (I : InsC) (n N cap : Nat) (t : TypeId) (b : Nat → Int) (i : Nat) (K : Ex → St → Prop) : Prop :=
(match decide ((↑(i + 1) : Int) < (↑n : Int)) with
| true => (match decide ((↑(i + 1) : Int) < (↑n : Int)) with
 | true => (match ((↑(i + 1) : Int).toNat + 0).blt N with
  | true => (match chkV (I.op ((↑(i + 1) : Int).toNat + 0)) (I.d ((↑(i + 1) : Int).toNat + 0)) (I.n ((↑(i + 1) : Int).toNat + 0)) (I.m ((↑(i + 1) : Int).toNat + 0)) (I.a ((↑(i + 1) : Int).toNat + 0)) (I.c ((↑(i + 1) : Int).toNat + 0)) (I.im ((↑(i + 1) : Int).toNat + 0)) != 0 with
   | true => K Ex.ret { n := 29, t := [(2, V.raw (Value.slice none 0 0)), (3, V.raw (Value.int IntKind.i64 (chkV (I.op ((↑(i + 1) : Int).toNat + 0)) (I.d ((↑(i + 1) : Int).toNat + 0)) (I.n ((↑(i + 1) : Int).toNat + 0)) (I.m ((↑(i + 1) : Int).toNat + 0)) (I.a ((↑(i + 1) : Int).toNat + 0)) (I.c ((↑(i + 1) : Int).toNat + 0)) (I.im ((↑(i + 1) : Int).toNat + 0))))), (4, V.lse 2 1 1 0 (i + 1)), (9, V.sle 0 7 0 n cap), (10, V.raw (Value.int IntKind.i64 (↑n : Int))), (11, V.raw (Value.int IntKind.i64 (↑(i + 1) : Int)))], s := [Ent.arr AM.ro [Col.int IntKind.i64 I.op, Col.int IntKind.i64 I.d, Col.int IntKind.i64 I.n, Col.int IntKind.i64 I.m, Col.int IntKind.i64 I.a, Col.int IntKind.i64 I.c, Col.int IntKind.i64 I.im] N t, Ent.no, Ent.arr (AM.grow 1) [Col.int IntKind.u32 b] (i + 1) 25] }
   | false => (match (i + 1).ble (i + 1) with
    | true => (match growOk (i + 1 + 1) 4 with
     | true => K Ex.normal { n := 29, t := [(2, V.raw (Value.slice none 0 0)), (3, V.raw (Value.int IntKind.i64 0)), (4, V.lse 2 1 1 0 (i + 1 + 1)), (9, V.sle 0 7 0 n cap), (10, V.raw (Value.int IntKind.i64 (↑n : Int))), (11, V.raw (Value.int IntKind.i64 (IntKind.i64.wrap ((↑(i + 1) : Int) + 1))))], s := [Ent.arr AM.ro [Col.int IntKind.i64 I.op, Col.int IntKind.i64 I.d, Col.int IntKind.i64 I.n, Col.int IntKind.i64 I.m, Col.int IntKind.i64 I.a, Col.int IntKind.i64 I.c, Col.int IntKind.i64 I.im] N t, Ent.no, Ent.arr (AM.grow 1) [Col.int IntKind.u32 fun j ↦ match j.blt (i + 1) with | true => b j | false => [wordV (I.op ((↑(i + 1) : Int).toNat + 0)) (I.d ((↑(i + 1) : Int).toNat + 0)) (I.n ((↑(i + 1) : Int).toNat + 0)) (I.m ((↑(i + 1) : Int).toNat + 0)) (I.a ((↑(i + 1) : Int).toNat + 0)) (I.c ((↑(i + 1) : Int).toNat + 0)) (I.im ((↑(i + 1) : Int).toNat + 0))].getD (j - (i + 1)) 0] (i + 1 + 1) 25] }
     | false => False)
    | false => False))
  | false => False)
 | false => False)
| false => K (Ex.exit 0) { n := 29, t := [(2, V.raw (Value.slice none 0 0)), (3, V.raw (Value.int IntKind.i64 0)), (4, V.lse 2 1 1 0 (i + 1)), (9, V.sle 0 7 0 n cap), (10, V.raw (Value.int IntKind.i64 (↑n : Int))), (11, V.raw (Value.int IntKind.i64 (↑(i + 1) : Int)))], s := [Ent.arr AM.ro [Col.int IntKind.i64 I.op, Col.int IntKind.i64 I.d, Col.int IntKind.i64 I.n, Col.int IntKind.i64 I.m, Col.int IntKind.i64 I.a, Col.int IntKind.i64 I.c, Col.int IntKind.i64 I.im] N t, Ent.no, Ent.arr (AM.grow 1) [Col.int IntKind.u32 b] (i + 1) 25] })
set_option maxRecDepth 1000000 in
theorem body1_eq (I : InsC) (n N cap : Nat) (t : TypeId) (b : Nat → Int) (i : Nat) (K : Ex → St → Prop) : evG Try.prog EW 40 (lft (subAt p1 (codeOf Try.prog 12))) (S1 I n N cap t b i) (fun e st => K e (gcSt 1 live st)) = body1_f I  n N cap  t  b  i  K := by kernel_rfl
def post0_f (I : InsC) (n N cap : Nat) (t : TypeId) (K : Res → Sto → Prop) : Prop :=
K (Res.ret (V.tup [V.raw (Value.slice none 0 0), V.raw (Value.int IntKind.i64 0)])) [Ent.arr AM.ro [Col.int IntKind.i64 I.op, Col.int IntKind.i64 I.d, Col.int IntKind.i64 I.n, Col.int IntKind.i64 I.m, Col.int IntKind.i64 I.a, Col.int IntKind.i64 I.c, Col.int IntKind.i64 I.im] N t]
set_option maxRecDepth 1000000 in
theorem post0_eq (I : InsC) (n N cap : Nat) (t : TypeId) (K : Res → Sto → Prop) : evG Try.prog EW 40 c1 (S0 I n N cap t) (bodyK False Try.prog (funcOf Try.prog 12) K) = post0_f I  n N cap  t  K := by kernel_rfl
def post1_f (I : InsC) (n N cap : Nat) (t : TypeId) (b : Nat → Int) (i : Nat) (K : Res → Sto → Prop) : Prop :=
K (Res.ret (V.tup [V.lse 2 1 1 0 (i + 1), V.raw (Value.int IntKind.i64 0)])) [Ent.arr AM.ro [Col.int IntKind.i64 I.op, Col.int IntKind.i64 I.d, Col.int IntKind.i64 I.n, Col.int IntKind.i64 I.m, Col.int IntKind.i64 I.a, Col.int IntKind.i64 I.c, Col.int IntKind.i64 I.im] N t, Ent.no, Ent.arr (AM.grow 1) [Col.int IntKind.u32 b] (i + 1) 25]
set_option maxRecDepth 1000000 in
theorem post1_eq (I : InsC) (n N cap : Nat) (t : TypeId) (b : Nat → Int) (i : Nat) (K : Res → Sto → Prop) : evG Try.prog EW 40 c1 (S1 I n N cap t b i) (bodyK False Try.prog (funcOf Try.prog 12) K) = post1_f I  n N cap  t  b  i  K := by kernel_rfl
def onret_f (v2 v3 v4 v9 v10 v11 : V) (s : Sto) (K : Res → Sto → Prop) : Prop :=
K (Res.ret (V.tup [v2, v3])) s
set_option maxRecDepth 1000000 in
theorem onret_eq (v2 v3 v4 v9 v10 v11 : V) (s : Sto) (K : Res → Sto → Prop) : ctxK Try.prog 1 p1 (codeOf Try.prog 12) (bodyK False Try.prog (funcOf Try.prog 12) K) .ret ⟨29, [(2, v2), (3, v3), (4, v4), (9, v9), (10, v10), (11, v11)], s⟩ = onret_f v2 v3 v4 v9 v10 v11  s  K := by kernel_rfl
end Go.Proofs.Ytbjikmepfpkmjaa.encWords
