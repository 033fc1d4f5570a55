/- formulas; printed by fm.py out of HeapRooms.spec. -/
import Derived.Test.YtfgbaolilodjoaazHeapRoomsRLRow4
import Derived.Test.YtfgbaolilodjoaazHeapRoomsRLNames
namespace Go.Proofs.Ytfgbaolilodjoaa.heapRooms
open Go Go.Proofs Go.Proofs.YtfgbaolilodjoaaRL 
set_option linter.unusedVariables false
def SA (g : Nat → Int) (n cap : Nat) (W : Int) (i : Nat) : St := ⟨109, [(0, .raw (.int .i64 W)), (1, .sle 0 1 0 n cap), (5, .ptr 1 0), (7, .raw (.int .i64 W)), (8, .raw (.int .i64 0)), (9, .raw (.int .i64 (i : Nat)))], [.arr .ro [.int .i64 g] n 0, .own [.raw (.int .i64 W), .raw (.int .i64 0), .raw (.slice none 0 0)] 48]⟩
def SB (g : Nat → Int) (n cap : Nat) (W : Int) (i : Nat) (u lf : Int) (m : Nat) (a b : Nat → Int) : St := ⟨109, [(0, .raw (.int .i64 W)), (1, .sle 0 1 0 n cap), (5, .ptr 1 0), (7, .raw (.int .i64 lf)), (8, .raw (.int .i64 (m : Nat))), (9, .raw (.int .i64 (i : Nat)))], [.arr .ro [.int .i64 g] n 0, .own [.raw (.int .i64 W), .raw (.int .i64 u), .lse 3 2 3 0 m] 48, .no, .arr (.grow 2) [.any, .int .i64 a, .int .i64 b] m 72]⟩
noncomputable def pth : List Nat := pathTo 11 (codeOf Try.prog 3)
def live : List Nat := [0,1,5,7,8,9]

def pre_f (g : Nat → Int) (n cap : Nat) (W : Int) (K : Res → Prop) (Z : St → Prop) : Prop :=
(match decide (W < 0) with
| true => K (Res.ret (V.raw (Value.bool true)))
| false => (match decide (W > 65536) with
 | true => K (Res.ret (V.raw (Value.bool true)))
 | false => (match decide ((↑n : Int) > 200) with
  | true => K (Res.ret (V.raw (Value.bool true)))
  | false => (match decide (W < 0) with
   | true => K (Res.ret (V.raw (Value.bool false)))
   | false => (match decide (W > 65536) with
    | true => K (Res.ret (V.raw (Value.bool false)))
    | false => Z { n := 109, t := [(0, V.raw (Value.int IntKind.i64 W)), (1, V.sle 0 1 0 n cap), (5, V.ptr 1 0), (7, V.raw (Value.int IntKind.i64 W)), (8, V.raw (Value.int IntKind.i64 0)), (9, V.raw (Value.int IntKind.i64 0))], s := [Ent.arr AM.ro [Col.int IntKind.i64 g] n 0, Ent.own [V.raw (Value.int IntKind.i64 W), V.raw (Value.int IntKind.i64 0), V.raw (Value.slice none 0 0)] 48] })))))
set_option maxRecDepth 1000000 in
theorem pre_eq (g : Nat → Int) (n cap : Nat) (W : Int) (K : Res → Prop) (Z : St → Prop) : evTo Try.prog noD 30 1 (fun st => Z (gcSt 1 live st)) pth (codeOf Try.prog 3) ⟨(funcOf Try.prog 3).ntmps, zipArgs 0 [.raw (.int .i64 W), .sle 0 1 0 n cap], [.arr .ro [.int .i64 g] n 0]⟩ (bodyK False Try.prog (funcOf Try.prog 3) (fun r _ => K r)) = pre_f g  n cap  W  K  Z := by kernel_rfl
def bodyA_f (g : Nat → Int) (n cap : Nat) (W : Int) (i : Nat) (K : Ex → St → Prop) : Prop :=
(match decide ((↑i : Int) < (↑n : Int)) with
| true => (match decide ((↑i : Int) < (↑n : Int)) with
 | true => (match ((↑i : Int).toNat + 0).blt n with
  | true => (match decide (g ((↑i : Int).toNat + 0) < 0) with
   | true => (match decide ((↑i : Int) < (↑n : Int)) with
    | true => (match ((↑i : Int).toNat + 0).blt n with
     | true => (match decide (g ((↑i : Int).toNat + 0) ≥ 0) with
      | true => (match decide ((↑i : Int) < (↑n : Int)) with
       | true => (match ((↑i : Int).toNat + 0).blt n with
        | true => (match !false == decide (g ((↑i : Int).toNat + 0) ≤ IntKind.i64.wrap (W - 3)) with
         | true => K Ex.ret { n := 109, t := [(0, V.raw (Value.int IntKind.i64 W)), (1, V.sle 0 1 0 n cap), (5, V.ptr 1 0), (7, V.raw (Value.int IntKind.i64 W)), (8, V.raw (Value.int IntKind.i64 0)), (9, V.raw (Value.int IntKind.i64 (↑i : Int)))], s := [Ent.arr AM.ro [Col.int IntKind.i64 g] n 0, Ent.own [V.raw (Value.int IntKind.i64 W), V.raw (Value.int IntKind.i64 0), V.raw (Value.slice none 0 0)] 48] }
         | false => (match 0 != IntKind.i64.wrap (W - W) with
          | true => K Ex.ret { n := 109, t := [(0, V.raw (Value.int IntKind.i64 W)), (1, V.sle 0 1 0 n cap), (5, V.ptr 1 0), (7, V.raw (Value.int IntKind.i64 W)), (8, V.raw (Value.int IntKind.i64 0)), (9, V.raw (Value.int IntKind.i64 (↑i : Int)))], s := [Ent.arr AM.ro [Col.int IntKind.i64 g] n 0, Ent.own [V.raw (Value.int IntKind.i64 W), V.raw (Value.int IntKind.i64 0), V.raw (Value.slice none 0 0)] 48] }
          | false => K Ex.normal { n := 109, t := [(0, V.raw (Value.int IntKind.i64 W)), (1, V.sle 0 1 0 n cap), (5, V.ptr 1 0), (7, V.raw (Value.int IntKind.i64 W)), (8, V.raw (Value.int IntKind.i64 0)), (9, V.raw (Value.int IntKind.i64 (IntKind.i64.wrap ((↑i : Int) + 1))))], s := [Ent.arr AM.ro [Col.int IntKind.i64 g] n 0, Ent.own [V.raw (Value.int IntKind.i64 W), V.raw (Value.int IntKind.i64 0), V.raw (Value.slice none 0 0)] 48] }))
        | false => False)
       | false => False)
      | false => (match 0 != IntKind.i64.wrap (W - W) with
       | true => K Ex.ret { n := 109, t := [(0, V.raw (Value.int IntKind.i64 W)), (1, V.sle 0 1 0 n cap), (5, V.ptr 1 0), (7, V.raw (Value.int IntKind.i64 W)), (8, V.raw (Value.int IntKind.i64 0)), (9, V.raw (Value.int IntKind.i64 (↑i : Int)))], s := [Ent.arr AM.ro [Col.int IntKind.i64 g] n 0, Ent.own [V.raw (Value.int IntKind.i64 W), V.raw (Value.int IntKind.i64 0), V.raw (Value.slice none 0 0)] 48] }
       | false => K Ex.normal { n := 109, t := [(0, V.raw (Value.int IntKind.i64 W)), (1, V.sle 0 1 0 n cap), (5, V.ptr 1 0), (7, V.raw (Value.int IntKind.i64 W)), (8, V.raw (Value.int IntKind.i64 0)), (9, V.raw (Value.int IntKind.i64 (IntKind.i64.wrap ((↑i : Int) + 1))))], s := [Ent.arr AM.ro [Col.int IntKind.i64 g] n 0, Ent.own [V.raw (Value.int IntKind.i64 W), V.raw (Value.int IntKind.i64 0), V.raw (Value.slice none 0 0)] 48] }))
     | false => False)
    | false => False)
   | false => (match decide (g ((↑i : Int).toNat + 0) > IntKind.i64.wrap (IntKind.i64.wrap (W - 0) - 3)) with
    | true => (match decide ((↑i : Int) < (↑n : Int)) with
     | true => (match ((↑i : Int).toNat + 0).blt n with
      | true => (match decide (g ((↑i : Int).toNat + 0) ≥ 0) with
       | true => (match decide ((↑i : Int) < (↑n : Int)) with
        | true => (match ((↑i : Int).toNat + 0).blt n with
         | true => (match !false == decide (g ((↑i : Int).toNat + 0) ≤ IntKind.i64.wrap (W - 3)) with
          | true => K Ex.ret { n := 109, t := [(0, V.raw (Value.int IntKind.i64 W)), (1, V.sle 0 1 0 n cap), (5, V.ptr 1 0), (7, V.raw (Value.int IntKind.i64 W)), (8, V.raw (Value.int IntKind.i64 0)), (9, V.raw (Value.int IntKind.i64 (↑i : Int)))], s := [Ent.arr AM.ro [Col.int IntKind.i64 g] n 0, Ent.own [V.raw (Value.int IntKind.i64 W), V.raw (Value.int IntKind.i64 0), V.raw (Value.slice none 0 0)] 48] }
          | false => (match 0 != IntKind.i64.wrap (W - W) with
           | true => K Ex.ret { n := 109, t := [(0, V.raw (Value.int IntKind.i64 W)), (1, V.sle 0 1 0 n cap), (5, V.ptr 1 0), (7, V.raw (Value.int IntKind.i64 W)), (8, V.raw (Value.int IntKind.i64 0)), (9, V.raw (Value.int IntKind.i64 (↑i : Int)))], s := [Ent.arr AM.ro [Col.int IntKind.i64 g] n 0, Ent.own [V.raw (Value.int IntKind.i64 W), V.raw (Value.int IntKind.i64 0), V.raw (Value.slice none 0 0)] 48] }
           | false => K Ex.normal { n := 109, t := [(0, V.raw (Value.int IntKind.i64 W)), (1, V.sle 0 1 0 n cap), (5, V.ptr 1 0), (7, V.raw (Value.int IntKind.i64 W)), (8, V.raw (Value.int IntKind.i64 0)), (9, V.raw (Value.int IntKind.i64 (IntKind.i64.wrap ((↑i : Int) + 1))))], s := [Ent.arr AM.ro [Col.int IntKind.i64 g] n 0, Ent.own [V.raw (Value.int IntKind.i64 W), V.raw (Value.int IntKind.i64 0), V.raw (Value.slice none 0 0)] 48] }))
         | false => False)
        | false => False)
       | false => (match 0 != IntKind.i64.wrap (W - W) with
        | true => K Ex.ret { n := 109, t := [(0, V.raw (Value.int IntKind.i64 W)), (1, V.sle 0 1 0 n cap), (5, V.ptr 1 0), (7, V.raw (Value.int IntKind.i64 W)), (8, V.raw (Value.int IntKind.i64 0)), (9, V.raw (Value.int IntKind.i64 (↑i : Int)))], s := [Ent.arr AM.ro [Col.int IntKind.i64 g] n 0, Ent.own [V.raw (Value.int IntKind.i64 W), V.raw (Value.int IntKind.i64 0), V.raw (Value.slice none 0 0)] 48] }
        | false => K Ex.normal { n := 109, t := [(0, V.raw (Value.int IntKind.i64 W)), (1, V.sle 0 1 0 n cap), (5, V.ptr 1 0), (7, V.raw (Value.int IntKind.i64 W)), (8, V.raw (Value.int IntKind.i64 0)), (9, V.raw (Value.int IntKind.i64 (IntKind.i64.wrap ((↑i : Int) + 1))))], s := [Ent.arr AM.ro [Col.int IntKind.i64 g] n 0, Ent.own [V.raw (Value.int IntKind.i64 W), V.raw (Value.int IntKind.i64 0), V.raw (Value.slice none 0 0)] 48] }))
      | false => False)
     | false => False)
    | false => (match decide (0 ≤ g ((↑i : Int).toNat + 0) ∧ g ((↑i : Int).toNat + 0) ≤ g ((↑i : Int).toNat + 0) ∧ 8 * g ((↑i : Int).toNat + 0) ≤ 281474976710656 ∧ g ((↑i : Int).toNat + 0) ≤ 9223372036854775807) with
     | true => (match decide ((↑i : Int) < (↑n : Int)) with
      | true => (match ((↑i : Int).toNat + 0).blt n with
       | true => (match decide (g ((↑i : Int).toNat + 0) ≥ 0) with
        | true => (match decide ((↑i : Int) < (↑n : Int)) with
         | true => (match ((↑i : Int).toNat + 0).blt n with
          | true => (match !true == decide (g ((↑i : Int).toNat + 0) ≤ IntKind.i64.wrap (W - 3)) with
           | true => K Ex.ret { n := 109, t := [(0, V.raw (Value.int IntKind.i64 W)), (1, V.sle 0 1 0 n cap), (5, V.ptr 1 0), (7, V.raw (Value.int IntKind.i64 W)), (8, V.raw (Value.int IntKind.i64 0)), (9, V.raw (Value.int IntKind.i64 (↑i : Int)))], s := [Ent.arr AM.ro [Col.int IntKind.i64 g] n 0, Ent.own [V.raw (Value.int IntKind.i64 W), V.raw (Value.int IntKind.i64 (IntKind.i64.wrap (0 + IntKind.i64.wrap (3 + g ((↑i : Int).toNat + 0))))), V.lst 3 2 0 0 1] 48, Ent.no, Ent.lst [V.ifc 51 (V.ptr 4 0), V.raw (Value.int IntKind.i64 (Int.negSucc 0)), V.raw (Value.int IntKind.i64 0)] 72 2 3, Ent.own [V.raw (Value.int IntKind.i64 (Int.negSucc 1)), V.sl 5 0 1 1, V.sle 6 1 0 (g ((↑i : Int).toNat + 0)).toNat (g ((↑i : Int).toNat + 0)).toNat] 56, Ent.own [] 53, Ent.arr AM.own [Col.int IntKind.i64 fun x ↦ 0] (g ((↑i : Int).toNat + 0)).toNat 2] }
           | false => (match decide ((↑i : Int) < (↑n : Int)) with
            | true => (match ((↑i : Int).toNat + 0).blt n with
             | true => (match IntKind.i64.wrap (0 + IntKind.i64.wrap (3 + g ((↑i : Int).toNat + 0))) != IntKind.i64.wrap (W - IntKind.i64.wrap (IntKind.i64.wrap (W - 3) - g ((↑i : Int).toNat + 0))) with
              | true => K Ex.ret { n := 109, t := [(0, V.raw (Value.int IntKind.i64 W)), (1, V.sle 0 1 0 n cap), (5, V.ptr 1 0), (7, V.raw (Value.int IntKind.i64 (IntKind.i64.wrap (IntKind.i64.wrap (W - 3) - g ((↑i : Int).toNat + 0))))), (8, V.raw (Value.int IntKind.i64 1)), (9, V.raw (Value.int IntKind.i64 (↑i : Int)))], s := [Ent.arr AM.ro [Col.int IntKind.i64 g] n 0, Ent.own [V.raw (Value.int IntKind.i64 W), V.raw (Value.int IntKind.i64 (IntKind.i64.wrap (0 + IntKind.i64.wrap (3 + g ((↑i : Int).toNat + 0))))), V.lst 3 2 0 0 1] 48, Ent.no, Ent.lst [V.ifc 51 (V.ptr 4 0), V.raw (Value.int IntKind.i64 (Int.negSucc 0)), V.raw (Value.int IntKind.i64 0)] 72 2 3, Ent.own [V.raw (Value.int IntKind.i64 (Int.negSucc 1)), V.sl 5 0 1 1, V.sle 6 1 0 (g ((↑i : Int).toNat + 0)).toNat (g ((↑i : Int).toNat + 0)).toNat] 56, Ent.own [] 53, Ent.arr AM.own [Col.int IntKind.i64 fun x ↦ 0] (g ((↑i : Int).toNat + 0)).toNat 2] }
              | false => K Ex.normal { n := 109, t := [(0, V.raw (Value.int IntKind.i64 W)), (1, V.sle 0 1 0 n cap), (5, V.ptr 1 0), (7, V.raw (Value.int IntKind.i64 (IntKind.i64.wrap (IntKind.i64.wrap (W - 3) - g ((↑i : Int).toNat + 0))))), (8, V.raw (Value.int IntKind.i64 1)), (9, V.raw (Value.int IntKind.i64 (IntKind.i64.wrap ((↑i : Int) + 1))))], s := [Ent.arr AM.ro [Col.int IntKind.i64 g] n 0, Ent.own [V.raw (Value.int IntKind.i64 W), V.raw (Value.int IntKind.i64 (IntKind.i64.wrap (0 + IntKind.i64.wrap (3 + g ((↑i : Int).toNat + 0))))), V.lst 3 2 0 0 1] 48, Ent.no, Ent.lst [V.ifc 51 (V.ptr 4 0), V.raw (Value.int IntKind.i64 (Int.negSucc 0)), V.raw (Value.int IntKind.i64 0)] 72 2 3, Ent.own [V.raw (Value.int IntKind.i64 (Int.negSucc 1)), V.sl 5 0 1 1, V.sle 6 1 0 (g ((↑i : Int).toNat + 0)).toNat (g ((↑i : Int).toNat + 0)).toNat] 56, Ent.own [] 53, Ent.arr AM.own [Col.int IntKind.i64 fun x ↦ 0] (g ((↑i : Int).toNat + 0)).toNat 2] })
             | false => False)
            | false => False))
          | false => False)
         | false => False)
        | false => K Ex.ret { n := 109, t := [(0, V.raw (Value.int IntKind.i64 W)), (1, V.sle 0 1 0 n cap), (5, V.ptr 1 0), (7, V.raw (Value.int IntKind.i64 W)), (8, V.raw (Value.int IntKind.i64 0)), (9, V.raw (Value.int IntKind.i64 (↑i : Int)))], s := [Ent.arr AM.ro [Col.int IntKind.i64 g] n 0, Ent.own [V.raw (Value.int IntKind.i64 W), V.raw (Value.int IntKind.i64 (IntKind.i64.wrap (0 + IntKind.i64.wrap (3 + g ((↑i : Int).toNat + 0))))), V.lst 3 2 0 0 1] 48, Ent.no, Ent.lst [V.ifc 51 (V.ptr 4 0), V.raw (Value.int IntKind.i64 (Int.negSucc 0)), V.raw (Value.int IntKind.i64 0)] 72 2 3, Ent.own [V.raw (Value.int IntKind.i64 (Int.negSucc 1)), V.sl 5 0 1 1, V.sle 6 1 0 (g ((↑i : Int).toNat + 0)).toNat (g ((↑i : Int).toNat + 0)).toNat] 56, Ent.own [] 53, Ent.arr AM.own [Col.int IntKind.i64 fun x ↦ 0] (g ((↑i : Int).toNat + 0)).toNat 2] })
       | false => False)
      | false => False)
     | false => False)))
  | false => False)
 | false => False)
| false => K (Ex.exit 0) { n := 109, t := [(0, V.raw (Value.int IntKind.i64 W)), (1, V.sle 0 1 0 n cap), (5, V.ptr 1 0), (7, V.raw (Value.int IntKind.i64 W)), (8, V.raw (Value.int IntKind.i64 0)), (9, V.raw (Value.int IntKind.i64 (↑i : Int)))], s := [Ent.arr AM.ro [Col.int IntKind.i64 g] n 0, Ent.own [V.raw (Value.int IntKind.i64 W), V.raw (Value.int IntKind.i64 0), V.raw (Value.slice none 0 0)] 48] })
set_option maxRecDepth 1000000 in
theorem bodyA_eq (g : Nat → Int) (n cap : Nat) (W : Int) (i : Nat) (K : Ex → St → Prop) : evG Try.prog noD 30 (lft (subAt pth (codeOf Try.prog 3))) (SA g n cap W i) (fun e st => K e (gcSt 1 live st)) = bodyA_f g  n cap  W  i  K := by kernel_rfl
def bodyB_f (g : Nat → Int) (n cap : Nat) (W : Int) (i : Nat) (u lf : Int) (m : Nat) (a b : Nat → Int) (K : Ex → St → Prop) : Prop :=
(match decide ((↑i : Int) < (↑n : Int)) with
| true => (match decide ((↑i : Int) < (↑n : Int)) with
 | true => (match ((↑i : Int).toNat + 0).blt n with
  | true => (match decide (g ((↑i : Int).toNat + 0) < 0) with
   | true => (match decide ((↑i : Int) < (↑n : Int)) with
    | true => (match ((↑i : Int).toNat + 0).blt n with
     | true => (match decide (g ((↑i : Int).toNat + 0) ≥ 0) with
      | true => (match decide ((↑i : Int) < (↑n : Int)) with
       | true => (match ((↑i : Int).toNat + 0).blt n with
        | true => (match !false == decide (g ((↑i : Int).toNat + 0) ≤ IntKind.i64.wrap (lf - 3)) with
         | true => K Ex.ret { n := 109, t := [(0, V.raw (Value.int IntKind.i64 W)), (1, V.sle 0 1 0 n cap), (5, V.ptr 1 0), (7, V.raw (Value.int IntKind.i64 lf)), (8, V.raw (Value.int IntKind.i64 (↑m : Int))), (9, V.raw (Value.int IntKind.i64 (↑i : Int)))], s := [Ent.arr AM.ro [Col.int IntKind.i64 g] n 0, Ent.own [V.raw (Value.int IntKind.i64 W), V.raw (Value.int IntKind.i64 u), V.lse 3 2 3 0 m] 48, Ent.no, Ent.arr (AM.grow 2) [Col.any, Col.int IntKind.i64 a, Col.int IntKind.i64 b] m 72] }
         | false => (match u != IntKind.i64.wrap (W - lf) with
          | true => K Ex.ret { n := 109, t := [(0, V.raw (Value.int IntKind.i64 W)), (1, V.sle 0 1 0 n cap), (5, V.ptr 1 0), (7, V.raw (Value.int IntKind.i64 lf)), (8, V.raw (Value.int IntKind.i64 (↑m : Int))), (9, V.raw (Value.int IntKind.i64 (↑i : Int)))], s := [Ent.arr AM.ro [Col.int IntKind.i64 g] n 0, Ent.own [V.raw (Value.int IntKind.i64 W), V.raw (Value.int IntKind.i64 u), V.lse 3 2 3 0 m] 48, Ent.no, Ent.arr (AM.grow 2) [Col.any, Col.int IntKind.i64 a, Col.int IntKind.i64 b] m 72] }
          | false => (match (↑m : Int) != (↑m : Int) with
           | true => K Ex.ret { n := 109, t := [(0, V.raw (Value.int IntKind.i64 W)), (1, V.sle 0 1 0 n cap), (5, V.ptr 1 0), (7, V.raw (Value.int IntKind.i64 lf)), (8, V.raw (Value.int IntKind.i64 (↑m : Int))), (9, V.raw (Value.int IntKind.i64 (↑i : Int)))], s := [Ent.arr AM.ro [Col.int IntKind.i64 g] n 0, Ent.own [V.raw (Value.int IntKind.i64 W), V.raw (Value.int IntKind.i64 u), V.lse 3 2 3 0 m] 48, Ent.no, Ent.arr (AM.grow 2) [Col.any, Col.int IntKind.i64 a, Col.int IntKind.i64 b] m 72] }
           | false => K Ex.normal { n := 109, t := [(0, V.raw (Value.int IntKind.i64 W)), (1, V.sle 0 1 0 n cap), (5, V.ptr 1 0), (7, V.raw (Value.int IntKind.i64 lf)), (8, V.raw (Value.int IntKind.i64 (↑m : Int))), (9, V.raw (Value.int IntKind.i64 (IntKind.i64.wrap ((↑i : Int) + 1))))], s := [Ent.arr AM.ro [Col.int IntKind.i64 g] n 0, Ent.own [V.raw (Value.int IntKind.i64 W), V.raw (Value.int IntKind.i64 u), V.lse 3 2 3 0 m] 48, Ent.no, Ent.arr (AM.grow 2) [Col.any, Col.int IntKind.i64 a, Col.int IntKind.i64 b] m 72] })))
        | false => False)
       | false => False)
      | false => (match u != IntKind.i64.wrap (W - lf) with
       | true => K Ex.ret { n := 109, t := [(0, V.raw (Value.int IntKind.i64 W)), (1, V.sle 0 1 0 n cap), (5, V.ptr 1 0), (7, V.raw (Value.int IntKind.i64 lf)), (8, V.raw (Value.int IntKind.i64 (↑m : Int))), (9, V.raw (Value.int IntKind.i64 (↑i : Int)))], s := [Ent.arr AM.ro [Col.int IntKind.i64 g] n 0, Ent.own [V.raw (Value.int IntKind.i64 W), V.raw (Value.int IntKind.i64 u), V.lse 3 2 3 0 m] 48, Ent.no, Ent.arr (AM.grow 2) [Col.any, Col.int IntKind.i64 a, Col.int IntKind.i64 b] m 72] }
       | false => (match (↑m : Int) != (↑m : Int) with
        | true => K Ex.ret { n := 109, t := [(0, V.raw (Value.int IntKind.i64 W)), (1, V.sle 0 1 0 n cap), (5, V.ptr 1 0), (7, V.raw (Value.int IntKind.i64 lf)), (8, V.raw (Value.int IntKind.i64 (↑m : Int))), (9, V.raw (Value.int IntKind.i64 (↑i : Int)))], s := [Ent.arr AM.ro [Col.int IntKind.i64 g] n 0, Ent.own [V.raw (Value.int IntKind.i64 W), V.raw (Value.int IntKind.i64 u), V.lse 3 2 3 0 m] 48, Ent.no, Ent.arr (AM.grow 2) [Col.any, Col.int IntKind.i64 a, Col.int IntKind.i64 b] m 72] }
        | false => K Ex.normal { n := 109, t := [(0, V.raw (Value.int IntKind.i64 W)), (1, V.sle 0 1 0 n cap), (5, V.ptr 1 0), (7, V.raw (Value.int IntKind.i64 lf)), (8, V.raw (Value.int IntKind.i64 (↑m : Int))), (9, V.raw (Value.int IntKind.i64 (IntKind.i64.wrap ((↑i : Int) + 1))))], s := [Ent.arr AM.ro [Col.int IntKind.i64 g] n 0, Ent.own [V.raw (Value.int IntKind.i64 W), V.raw (Value.int IntKind.i64 u), V.lse 3 2 3 0 m] 48, Ent.no, Ent.arr (AM.grow 2) [Col.any, Col.int IntKind.i64 a, Col.int IntKind.i64 b] m 72] })))
     | false => False)
    | false => False)
   | false => (match decide (g ((↑i : Int).toNat + 0) > IntKind.i64.wrap (IntKind.i64.wrap (W - u) - 3)) with
    | true => (match decide ((↑i : Int) < (↑n : Int)) with
     | true => (match ((↑i : Int).toNat + 0).blt n with
      | true => (match decide (g ((↑i : Int).toNat + 0) ≥ 0) with
       | true => (match decide ((↑i : Int) < (↑n : Int)) with
        | true => (match ((↑i : Int).toNat + 0).blt n with
         | true => (match !false == decide (g ((↑i : Int).toNat + 0) ≤ IntKind.i64.wrap (lf - 3)) with
          | true => K Ex.ret { n := 109, t := [(0, V.raw (Value.int IntKind.i64 W)), (1, V.sle 0 1 0 n cap), (5, V.ptr 1 0), (7, V.raw (Value.int IntKind.i64 lf)), (8, V.raw (Value.int IntKind.i64 (↑m : Int))), (9, V.raw (Value.int IntKind.i64 (↑i : Int)))], s := [Ent.arr AM.ro [Col.int IntKind.i64 g] n 0, Ent.own [V.raw (Value.int IntKind.i64 W), V.raw (Value.int IntKind.i64 u), V.lse 3 2 3 0 m] 48, Ent.no, Ent.arr (AM.grow 2) [Col.any, Col.int IntKind.i64 a, Col.int IntKind.i64 b] m 72] }
          | false => (match u != IntKind.i64.wrap (W - lf) with
           | true => K Ex.ret { n := 109, t := [(0, V.raw (Value.int IntKind.i64 W)), (1, V.sle 0 1 0 n cap), (5, V.ptr 1 0), (7, V.raw (Value.int IntKind.i64 lf)), (8, V.raw (Value.int IntKind.i64 (↑m : Int))), (9, V.raw (Value.int IntKind.i64 (↑i : Int)))], s := [Ent.arr AM.ro [Col.int IntKind.i64 g] n 0, Ent.own [V.raw (Value.int IntKind.i64 W), V.raw (Value.int IntKind.i64 u), V.lse 3 2 3 0 m] 48, Ent.no, Ent.arr (AM.grow 2) [Col.any, Col.int IntKind.i64 a, Col.int IntKind.i64 b] m 72] }
           | false => (match (↑m : Int) != (↑m : Int) with
            | true => K Ex.ret { n := 109, t := [(0, V.raw (Value.int IntKind.i64 W)), (1, V.sle 0 1 0 n cap), (5, V.ptr 1 0), (7, V.raw (Value.int IntKind.i64 lf)), (8, V.raw (Value.int IntKind.i64 (↑m : Int))), (9, V.raw (Value.int IntKind.i64 (↑i : Int)))], s := [Ent.arr AM.ro [Col.int IntKind.i64 g] n 0, Ent.own [V.raw (Value.int IntKind.i64 W), V.raw (Value.int IntKind.i64 u), V.lse 3 2 3 0 m] 48, Ent.no, Ent.arr (AM.grow 2) [Col.any, Col.int IntKind.i64 a, Col.int IntKind.i64 b] m 72] }
            | false => K Ex.normal { n := 109, t := [(0, V.raw (Value.int IntKind.i64 W)), (1, V.sle 0 1 0 n cap), (5, V.ptr 1 0), (7, V.raw (Value.int IntKind.i64 lf)), (8, V.raw (Value.int IntKind.i64 (↑m : Int))), (9, V.raw (Value.int IntKind.i64 (IntKind.i64.wrap ((↑i : Int) + 1))))], s := [Ent.arr AM.ro [Col.int IntKind.i64 g] n 0, Ent.own [V.raw (Value.int IntKind.i64 W), V.raw (Value.int IntKind.i64 u), V.lse 3 2 3 0 m] 48, Ent.no, Ent.arr (AM.grow 2) [Col.any, Col.int IntKind.i64 a, Col.int IntKind.i64 b] m 72] })))
         | false => False)
        | false => False)
       | false => (match u != IntKind.i64.wrap (W - lf) with
        | true => K Ex.ret { n := 109, t := [(0, V.raw (Value.int IntKind.i64 W)), (1, V.sle 0 1 0 n cap), (5, V.ptr 1 0), (7, V.raw (Value.int IntKind.i64 lf)), (8, V.raw (Value.int IntKind.i64 (↑m : Int))), (9, V.raw (Value.int IntKind.i64 (↑i : Int)))], s := [Ent.arr AM.ro [Col.int IntKind.i64 g] n 0, Ent.own [V.raw (Value.int IntKind.i64 W), V.raw (Value.int IntKind.i64 u), V.lse 3 2 3 0 m] 48, Ent.no, Ent.arr (AM.grow 2) [Col.any, Col.int IntKind.i64 a, Col.int IntKind.i64 b] m 72] }
        | false => (match (↑m : Int) != (↑m : Int) with
         | true => K Ex.ret { n := 109, t := [(0, V.raw (Value.int IntKind.i64 W)), (1, V.sle 0 1 0 n cap), (5, V.ptr 1 0), (7, V.raw (Value.int IntKind.i64 lf)), (8, V.raw (Value.int IntKind.i64 (↑m : Int))), (9, V.raw (Value.int IntKind.i64 (↑i : Int)))], s := [Ent.arr AM.ro [Col.int IntKind.i64 g] n 0, Ent.own [V.raw (Value.int IntKind.i64 W), V.raw (Value.int IntKind.i64 u), V.lse 3 2 3 0 m] 48, Ent.no, Ent.arr (AM.grow 2) [Col.any, Col.int IntKind.i64 a, Col.int IntKind.i64 b] m 72] }
         | false => K Ex.normal { n := 109, t := [(0, V.raw (Value.int IntKind.i64 W)), (1, V.sle 0 1 0 n cap), (5, V.ptr 1 0), (7, V.raw (Value.int IntKind.i64 lf)), (8, V.raw (Value.int IntKind.i64 (↑m : Int))), (9, V.raw (Value.int IntKind.i64 (IntKind.i64.wrap ((↑i : Int) + 1))))], s := [Ent.arr AM.ro [Col.int IntKind.i64 g] n 0, Ent.own [V.raw (Value.int IntKind.i64 W), V.raw (Value.int IntKind.i64 u), V.lse 3 2 3 0 m] 48, Ent.no, Ent.arr (AM.grow 2) [Col.any, Col.int IntKind.i64 a, Col.int IntKind.i64 b] m 72] })))
      | false => False)
     | false => False)
    | false => (match decide (0 ≤ g ((↑i : Int).toNat + 0) ∧ g ((↑i : Int).toNat + 0) ≤ g ((↑i : Int).toNat + 0) ∧ 8 * g ((↑i : Int).toNat + 0) ≤ 281474976710656 ∧ g ((↑i : Int).toNat + 0) ≤ 9223372036854775807) with
     | true => (match m.ble m with
      | true => (match growOk (m + 1) 32 with
       | true => (match decide ((↑i : Int) < (↑n : Int)) with
        | true => (match ((↑i : Int).toNat + 0).blt n with
         | true => (match decide (g ((↑i : Int).toNat + 0) ≥ 0) with
          | true => (match decide ((↑i : Int) < (↑n : Int)) with
           | true => (match ((↑i : Int).toNat + 0).blt n with
            | true => (match !true == decide (g ((↑i : Int).toNat + 0) ≤ IntKind.i64.wrap (lf - 3)) with
             | true => K Ex.ret { n := 109, t := [(0, V.raw (Value.int IntKind.i64 W)), (1, V.sle 0 1 0 n cap), (5, V.ptr 1 0), (7, V.raw (Value.int IntKind.i64 lf)), (8, V.raw (Value.int IntKind.i64 (↑m : Int))), (9, V.raw (Value.int IntKind.i64 (↑i : Int)))], s := [Ent.arr AM.ro [Col.int IntKind.i64 g] n 0, Ent.own [V.raw (Value.int IntKind.i64 W), V.raw (Value.int IntKind.i64 (IntKind.i64.wrap (u + IntKind.i64.wrap (3 + g ((↑i : Int).toNat + 0))))), V.lse 3 2 3 0 (m + 1)] 48, Ent.no, Ent.arr (AM.grow 2) [Col.any, Col.int IntKind.i64 fun j ↦ match j.blt m with | true => a j | false => [Int.negSucc 0].getD (j - m) 0, Col.int IntKind.i64 fun j ↦ match j.blt m with | true => b j | false => [0].getD (j - m) 0] (m + 1) 72] }
             | false => (match (↑(m + 1) : Int) != IntKind.i64.wrap ((↑m : Int) + 1) with
              | true => K Ex.ret { n := 109, t := [(0, V.raw (Value.int IntKind.i64 W)), (1, V.sle 0 1 0 n cap), (5, V.ptr 1 0), (7, V.raw (Value.int IntKind.i64 lf)), (8, V.raw (Value.int IntKind.i64 (↑m : Int))), (9, V.raw (Value.int IntKind.i64 (↑i : Int)))], s := [Ent.arr AM.ro [Col.int IntKind.i64 g] n 0, Ent.own [V.raw (Value.int IntKind.i64 W), V.raw (Value.int IntKind.i64 (IntKind.i64.wrap (u + IntKind.i64.wrap (3 + g ((↑i : Int).toNat + 0))))), V.lse 3 2 3 0 (m + 1)] 48, Ent.no, Ent.arr (AM.grow 2) [Col.any, Col.int IntKind.i64 fun j ↦ match j.blt m with | true => a j | false => [Int.negSucc 0].getD (j - m) 0, Col.int IntKind.i64 fun j ↦ match j.blt m with | true => b j | false => [0].getD (j - m) 0] (m + 1) 72] }
              | false => (match decide ((↑i : Int) < (↑n : Int)) with
               | true => (match ((↑i : Int).toNat + 0).blt n with
                | true => (match IntKind.i64.wrap (u + IntKind.i64.wrap (3 + g ((↑i : Int).toNat + 0))) != IntKind.i64.wrap (W - IntKind.i64.wrap (IntKind.i64.wrap (lf - 3) - g ((↑i : Int).toNat + 0))) with
                 | true => K Ex.ret { n := 109, t := [(0, V.raw (Value.int IntKind.i64 W)), (1, V.sle 0 1 0 n cap), (5, V.ptr 1 0), (7, V.raw (Value.int IntKind.i64 (IntKind.i64.wrap (IntKind.i64.wrap (lf - 3) - g ((↑i : Int).toNat + 0))))), (8, V.raw (Value.int IntKind.i64 (IntKind.i64.wrap ((↑m : Int) + 1)))), (9, V.raw (Value.int IntKind.i64 (↑i : Int)))], s := [Ent.arr AM.ro [Col.int IntKind.i64 g] n 0, Ent.own [V.raw (Value.int IntKind.i64 W), V.raw (Value.int IntKind.i64 (IntKind.i64.wrap (u + IntKind.i64.wrap (3 + g ((↑i : Int).toNat + 0))))), V.lse 3 2 3 0 (m + 1)] 48, Ent.no, Ent.arr (AM.grow 2) [Col.any, Col.int IntKind.i64 fun j ↦ match j.blt m with | true => a j | false => [Int.negSucc 0].getD (j - m) 0, Col.int IntKind.i64 fun j ↦ match j.blt m with | true => b j | false => [0].getD (j - m) 0] (m + 1) 72] }
                 | false => (match (↑(m + 1) : Int) != IntKind.i64.wrap ((↑m : Int) + 1) with
                  | true => K Ex.ret { n := 109, t := [(0, V.raw (Value.int IntKind.i64 W)), (1, V.sle 0 1 0 n cap), (5, V.ptr 1 0), (7, V.raw (Value.int IntKind.i64 (IntKind.i64.wrap (IntKind.i64.wrap (lf - 3) - g ((↑i : Int).toNat + 0))))), (8, V.raw (Value.int IntKind.i64 (IntKind.i64.wrap ((↑m : Int) + 1)))), (9, V.raw (Value.int IntKind.i64 (↑i : Int)))], s := [Ent.arr AM.ro [Col.int IntKind.i64 g] n 0, Ent.own [V.raw (Value.int IntKind.i64 W), V.raw (Value.int IntKind.i64 (IntKind.i64.wrap (u + IntKind.i64.wrap (3 + g ((↑i : Int).toNat + 0))))), V.lse 3 2 3 0 (m + 1)] 48, Ent.no, Ent.arr (AM.grow 2) [Col.any, Col.int IntKind.i64 fun j ↦ match j.blt m with | true => a j | false => [Int.negSucc 0].getD (j - m) 0, Col.int IntKind.i64 fun j ↦ match j.blt m with | true => b j | false => [0].getD (j - m) 0] (m + 1) 72] }
                  | false => K Ex.normal { n := 109, t := [(0, V.raw (Value.int IntKind.i64 W)), (1, V.sle 0 1 0 n cap), (5, V.ptr 1 0), (7, V.raw (Value.int IntKind.i64 (IntKind.i64.wrap (IntKind.i64.wrap (lf - 3) - g ((↑i : Int).toNat + 0))))), (8, V.raw (Value.int IntKind.i64 (IntKind.i64.wrap ((↑m : Int) + 1)))), (9, V.raw (Value.int IntKind.i64 (IntKind.i64.wrap ((↑i : Int) + 1))))], s := [Ent.arr AM.ro [Col.int IntKind.i64 g] n 0, Ent.own [V.raw (Value.int IntKind.i64 W), V.raw (Value.int IntKind.i64 (IntKind.i64.wrap (u + IntKind.i64.wrap (3 + g ((↑i : Int).toNat + 0))))), V.lse 3 2 3 0 (m + 1)] 48, Ent.no, Ent.arr (AM.grow 2) [Col.any, Col.int IntKind.i64 fun j ↦ match j.blt m with | true => a j | false => [Int.negSucc 0].getD (j - m) 0, Col.int IntKind.i64 fun j ↦ match j.blt m with | true => b j | false => [0].getD (j - m) 0] (m + 1) 72] }))
                | false => False)
               | false => False)))
            | false => False)
           | false => False)
          | false => K Ex.ret { n := 109, t := [(0, V.raw (Value.int IntKind.i64 W)), (1, V.sle 0 1 0 n cap), (5, V.ptr 1 0), (7, V.raw (Value.int IntKind.i64 lf)), (8, V.raw (Value.int IntKind.i64 (↑m : Int))), (9, V.raw (Value.int IntKind.i64 (↑i : Int)))], s := [Ent.arr AM.ro [Col.int IntKind.i64 g] n 0, Ent.own [V.raw (Value.int IntKind.i64 W), V.raw (Value.int IntKind.i64 (IntKind.i64.wrap (u + IntKind.i64.wrap (3 + g ((↑i : Int).toNat + 0))))), V.lse 3 2 3 0 (m + 1)] 48, Ent.no, Ent.arr (AM.grow 2) [Col.any, Col.int IntKind.i64 fun j ↦ match j.blt m with | true => a j | false => [Int.negSucc 0].getD (j - m) 0, Col.int IntKind.i64 fun j ↦ match j.blt m with | true => b j | false => [0].getD (j - m) 0] (m + 1) 72] })
         | false => False)
        | false => False)
       | false => False)
      | false => False)
     | false => False)))
  | false => False)
 | false => False)
| false => K (Ex.exit 0) { n := 109, t := [(0, V.raw (Value.int IntKind.i64 W)), (1, V.sle 0 1 0 n cap), (5, V.ptr 1 0), (7, V.raw (Value.int IntKind.i64 lf)), (8, V.raw (Value.int IntKind.i64 (↑m : Int))), (9, V.raw (Value.int IntKind.i64 (↑i : Int)))], s := [Ent.arr AM.ro [Col.int IntKind.i64 g] n 0, Ent.own [V.raw (Value.int IntKind.i64 W), V.raw (Value.int IntKind.i64 u), V.lse 3 2 3 0 m] 48, Ent.no, Ent.arr (AM.grow 2) [Col.any, Col.int IntKind.i64 a, Col.int IntKind.i64 b] m 72] })
set_option maxRecDepth 1000000 in
theorem bodyB_eq (g : Nat → Int) (n cap : Nat) (W : Int) (i : Nat) (u lf : Int) (m : Nat) (a b : Nat → Int) (K : Ex → St → Prop) : evG Try.prog noD 30 (lft (subAt pth (codeOf Try.prog 3))) (SB g n cap W i u lf m a b) (fun e st => K e (gcSt 1 live st)) = bodyB_f g  n cap  W  i  u lf  m  a b  K := by kernel_rfl
def postA_f (g : Nat → Int) (n cap : Nat) (W : Int) (i : Nat) (K : Res → Prop) : Prop :=
K (Res.ret (V.raw (Value.bool true)))
set_option maxRecDepth 1000000 in
theorem postA_eq (g : Nat → Int) (n cap : Nat) (W : Int) (i : Nat) (K : Res → Prop) : evG Try.prog noD 30 (subAt [0,0,0,0,0,0,0,0] (codeOf Try.prog 3)) (SA g n cap W i) (bodyK False Try.prog (funcOf Try.prog 3) (fun r _ => K r)) = postA_f g  n cap  W  i  K := by kernel_rfl
def postB_f (g : Nat → Int) (n cap : Nat) (W : Int) (i : Nat) (u lf : Int) (m : Nat) (a b : Nat → Int) (K : Res → Prop) : Prop :=
K (Res.ret (V.raw (Value.bool true)))
set_option maxRecDepth 1000000 in
theorem postB_eq (g : Nat → Int) (n cap : Nat) (W : Int) (i : Nat) (u lf : Int) (m : Nat) (a b : Nat → Int) (K : Res → Prop) : evG Try.prog noD 30 (subAt [0,0,0,0,0,0,0,0] (codeOf Try.prog 3)) (SB g n cap W i u lf m a b) (bodyK False Try.prog (funcOf Try.prog 3) (fun r _ => K r)) = postB_f g  n cap  W  i  u lf  m  a b  K := by kernel_rfl
end Go.Proofs.Ytfgbaolilodjoaa.heapRooms
