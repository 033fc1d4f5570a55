/- formulas; printed by fm.py out of LayoutSlots.spec. -/
import Derived.Test.YtlhpkcbeamphjaazLayoutSlotsRLRow4
import Derived.Test.YtlhpkcbeamphjaazLayoutSlotsRLNames
namespace Go.Proofs.Ytlhpkcbeamphjaa.layoutSlots
open Go Go.Proofs Go.Proofs.YtlhpkcbeamphjaaRL 
set_option linter.unusedVariables false
def live1 : List Nat := [0,1,2,3,4,11,12,13]
def live3 : List Nat := [0,12,15,17]
noncomputable def p1 : List Nat := pathTo 8 (codeOf Try.prog 3)
noncomputable def c1 : Code := subAt (p1.dropLast.dropLast.dropLast ++ [0]) (codeOf Try.prog 3)
def pathS (r : Nat) : Code → List Nat
  | .seq a b => match Nat.beq (firstR (.seq a b)) (r + 1) with
    | true => []
    | false => 0 :: pathS r b
  | _ => []
noncomputable def c22 : Code := subAt (pathS 22 c1) c1
noncomputable def c24 : Code := subAt (pathS 24 c22) c22
noncomputable def c25 : Code := subAt (pathS 25 c24) c24
noncomputable def c26 : Code := subAt (pathS 26 c25) c25
noncomputable def p3 : List Nat := pathTo 29 c26
noncomputable def c3 : Code := subAt (p3.dropLast.dropLast.dropLast ++ [0]) c26
def live2 : List Nat := [0,1,2,3,4,12]
def live25 : List Nat := [0,1,2,3,4,12,15]
def live26 : List Nat := [0,1,2,3,4,12,15,16]
def SD (g : Nat → Int) (n cap : Nat) (o a p b : Int) (m : Nat) (f : Nat → Int) : St := ⟨186, [(0, .sle 0 1 0 n cap), (1, .raw (.int .i64 o)), (2, .raw (.int .i64 a)), (3, .raw (.int .i64 p)), (4, .raw (.int .i64 b)), (12, .lse 2 1 1 0 m)], [.arr .ro [.int .i64 g] n 0, .no, .arr (.grow 1) [.int .i64 f] m 3]⟩
def SE (g : Nat → Int) (n cap : Nat) (o a p b x : Int) (m : Nat) (f : Nat → Int) : St := ⟨186, [(0, .sle 0 1 0 n cap), (1, .raw (.int .i64 o)), (2, .raw (.int .i64 a)), (3, .raw (.int .i64 p)), (4, .raw (.int .i64 b)), (12, .lse 2 1 1 0 m), (15, .raw (.int .u64 x))], [.arr .ro [.int .i64 g] n 0, .no, .arr (.grow 1) [.int .i64 f] m 3]⟩
def SF (g : Nat → Int) (n cap : Nat) (o a p b x y : Int) (m : Nat) (f : Nat → Int) : St := ⟨186, [(0, .sle 0 1 0 n cap), (1, .raw (.int .i64 o)), (2, .raw (.int .i64 a)), (3, .raw (.int .i64 p)), (4, .raw (.int .i64 b)), (12, .lse 2 1 1 0 m), (15, .raw (.int .u64 x)), (16, .raw (.int .u64 y))], [.arr .ro [.int .i64 g] n 0, .no, .arr (.grow 1) [.int .i64 f] m 3]⟩
def SA (g : Nat → Int) (n cap : Nat) (o a p b : Int) : St := ⟨186, [(0, .sle 0 1 0 n cap), (1, .raw (.int .i64 o)), (2, .raw (.int .i64 a)), (3, .raw (.int .i64 p)), (4, .raw (.int .i64 b)), (11, .raw (.int .i64 1)), (12, .raw (.slice none 0 0)), (13, .raw (.int .i64 0))], [.arr .ro [.int .i64 g] n 0]⟩
def SB (g : Nat → Int) (n cap : Nat) (o a p b : Int) (W : Int) (i : Nat) (f : Nat → Int) : St := ⟨186, [(0, .sle 0 1 0 n cap), (1, .raw (.int .i64 o)), (2, .raw (.int .i64 a)), (3, .raw (.int .i64 p)), (4, .raw (.int .i64 b)), (11, .raw (.int .i64 W)), (12, .lse 2 1 1 0 i), (13, .raw (.int .i64 (i : Nat)))], [.arr .ro [.int .i64 g] n 0, .no, .arr (.grow 1) [.int .i64 f] i 3]⟩
def SC (g : Nat → Int) (n cap : Nat) (q : Int) (m : Nat) (k : Nat) (f : Nat → Int) : St := ⟨186, [(0, .sle 0 1 0 n cap), (12, .lse 2 1 1 0 m), (15, .raw (.int .u64 q)), (17, .raw (.int .i64 (k : Nat)))], [.arr .ro [.int .i64 g] n 0, .no, .arr (.grow 1) [.int .i64 f] m 3]⟩

def pre_f (g : Nat → Int) (q cap : Nat) (o a p b : Int) (K : Res → Prop) (Z : St → Prop) : Prop :=
(match decide ((↑(q + 1) : Int) > 200) with
| true => K (Res.ret (V.raw (Value.bool true)))
| false => Z { n := 186, t := [(0, V.sle 0 1 0 (q + 1) cap), (1, V.raw (Value.int IntKind.i64 o)), (2, V.raw (Value.int IntKind.i64 a)), (3, V.raw (Value.int IntKind.i64 p)), (4, V.raw (Value.int IntKind.i64 b)), (11, V.raw (Value.int IntKind.i64 1)), (12, V.raw (Value.slice none 0 0)), (13, V.raw (Value.int IntKind.i64 0))], s := [Ent.arr AM.ro [Col.int IntKind.i64 g] (q + 1) 0] })
set_option maxRecDepth 1000000 in
theorem pre_eq (g : Nat → Int) (q cap : Nat) (o a p b : Int) (K : Res → Prop) (Z : St → Prop) : evTo Try.prog noD 60 1 (fun st => Z (gcSt 1 live1 st)) p1 (codeOf Try.prog 3) ⟨(funcOf Try.prog 3).ntmps, zipArgs 0 [.sle 0 1 0 (q + 1) cap, .raw (.int .i64 o), .raw (.int .i64 a), .raw (.int .i64 p), .raw (.int .i64 b)], [.arr .ro [.int .i64 g] (q + 1) 0]⟩ (bodyK False Try.prog (funcOf Try.prog 3) (fun r _ => K r)) = pre_f g  q cap  o a p b  K  Z := by kernel_rfl
def bodyA_f (g : Nat → Int) (n cap : Nat) (o a p b : Int) (K : Ex → St → Prop) : Prop :=
(match decide (0 < (↑n : Int)) with
| true => (match decide (0 < (↑n : Int)) with
 | true => (match Nat.blt 0 n with
  | true => (match decide ((g 0).tmod 50 < 0) with
   | true => (match decide (IntKind.i64.wrap (0 - (g 0).tmod 50) < 0) with
    | true => (match 0 != IntKind.u64.wrap (IntKind.i64.wrap (24 + IntKind.i64.wrap (8 * IntKind.i64.wrap (0 - (g 0).tmod 50)))) with
     | true => K Ex.ret { n := 186, t := [(0, V.sle 0 1 0 n cap), (1, V.raw (Value.int IntKind.i64 o)), (2, V.raw (Value.int IntKind.i64 a)), (3, V.raw (Value.int IntKind.i64 p)), (4, V.raw (Value.int IntKind.i64 b)), (11, V.raw (Value.int IntKind.i64 1)), (12, V.lse 2 1 1 0 1), (13, V.raw (Value.int IntKind.i64 0))], s := [Ent.arr AM.ro [Col.int IntKind.i64 g] n 0, Ent.no, Ent.arr (AM.grow 1) [Col.int IntKind.i64 fun j ↦ [1].getD j 0] 1 3] }
     | false => K Ex.normal { n := 186, t := [(0, V.sle 0 1 0 n cap), (1, V.raw (Value.int IntKind.i64 o)), (2, V.raw (Value.int IntKind.i64 a)), (3, V.raw (Value.int IntKind.i64 p)), (4, V.raw (Value.int IntKind.i64 b)), (11, V.raw (Value.int IntKind.i64 (IntKind.i64.wrap (4 + IntKind.i64.wrap (0 - (g 0).tmod 50))))), (12, V.lse 2 1 1 0 1), (13, V.raw (Value.int IntKind.i64 1))], s := [Ent.arr AM.ro [Col.int IntKind.i64 g] n 0, Ent.no, Ent.arr (AM.grow 1) [Col.int IntKind.i64 fun j ↦ [1].getD j 0] 1 3] })
    | false => (match IntKind.u64.wrap (24 + IntKind.u64.wrap (8 * IntKind.u64.wrap (IntKind.i64.wrap (0 - (g 0).tmod 50)))) != IntKind.u64.wrap (IntKind.i64.wrap (24 + IntKind.i64.wrap (8 * IntKind.i64.wrap (0 - (g 0).tmod 50)))) with
     | true => K Ex.ret { n := 186, t := [(0, V.sle 0 1 0 n cap), (1, V.raw (Value.int IntKind.i64 o)), (2, V.raw (Value.int IntKind.i64 a)), (3, V.raw (Value.int IntKind.i64 p)), (4, V.raw (Value.int IntKind.i64 b)), (11, V.raw (Value.int IntKind.i64 1)), (12, V.lse 2 1 1 0 1), (13, V.raw (Value.int IntKind.i64 0))], s := [Ent.arr AM.ro [Col.int IntKind.i64 g] n 0, Ent.no, Ent.arr (AM.grow 1) [Col.int IntKind.i64 fun j ↦ [1].getD j 0] 1 3] }
     | false => K Ex.normal { n := 186, t := [(0, V.sle 0 1 0 n cap), (1, V.raw (Value.int IntKind.i64 o)), (2, V.raw (Value.int IntKind.i64 a)), (3, V.raw (Value.int IntKind.i64 p)), (4, V.raw (Value.int IntKind.i64 b)), (11, V.raw (Value.int IntKind.i64 (IntKind.i64.wrap (4 + IntKind.i64.wrap (0 - (g 0).tmod 50))))), (12, V.lse 2 1 1 0 1), (13, V.raw (Value.int IntKind.i64 1))], s := [Ent.arr AM.ro [Col.int IntKind.i64 g] n 0, Ent.no, Ent.arr (AM.grow 1) [Col.int IntKind.i64 fun j ↦ [1].getD j 0] 1 3] }))
   | false => (match decide ((g 0).tmod 50 < 0) with
    | true => (match 0 != IntKind.u64.wrap (IntKind.i64.wrap (24 + IntKind.i64.wrap (8 * (g 0).tmod 50))) with
     | true => K Ex.ret { n := 186, t := [(0, V.sle 0 1 0 n cap), (1, V.raw (Value.int IntKind.i64 o)), (2, V.raw (Value.int IntKind.i64 a)), (3, V.raw (Value.int IntKind.i64 p)), (4, V.raw (Value.int IntKind.i64 b)), (11, V.raw (Value.int IntKind.i64 1)), (12, V.lse 2 1 1 0 1), (13, V.raw (Value.int IntKind.i64 0))], s := [Ent.arr AM.ro [Col.int IntKind.i64 g] n 0, Ent.no, Ent.arr (AM.grow 1) [Col.int IntKind.i64 fun j ↦ [1].getD j 0] 1 3] }
     | false => K Ex.normal { n := 186, t := [(0, V.sle 0 1 0 n cap), (1, V.raw (Value.int IntKind.i64 o)), (2, V.raw (Value.int IntKind.i64 a)), (3, V.raw (Value.int IntKind.i64 p)), (4, V.raw (Value.int IntKind.i64 b)), (11, V.raw (Value.int IntKind.i64 (IntKind.i64.wrap (4 + (g 0).tmod 50)))), (12, V.lse 2 1 1 0 1), (13, V.raw (Value.int IntKind.i64 1))], s := [Ent.arr AM.ro [Col.int IntKind.i64 g] n 0, Ent.no, Ent.arr (AM.grow 1) [Col.int IntKind.i64 fun j ↦ [1].getD j 0] 1 3] })
    | false => (match IntKind.u64.wrap (24 + IntKind.u64.wrap (8 * IntKind.u64.wrap ((g 0).tmod 50))) != IntKind.u64.wrap (IntKind.i64.wrap (24 + IntKind.i64.wrap (8 * (g 0).tmod 50))) with
     | true => K Ex.ret { n := 186, t := [(0, V.sle 0 1 0 n cap), (1, V.raw (Value.int IntKind.i64 o)), (2, V.raw (Value.int IntKind.i64 a)), (3, V.raw (Value.int IntKind.i64 p)), (4, V.raw (Value.int IntKind.i64 b)), (11, V.raw (Value.int IntKind.i64 1)), (12, V.lse 2 1 1 0 1), (13, V.raw (Value.int IntKind.i64 0))], s := [Ent.arr AM.ro [Col.int IntKind.i64 g] n 0, Ent.no, Ent.arr (AM.grow 1) [Col.int IntKind.i64 fun j ↦ [1].getD j 0] 1 3] }
     | false => K Ex.normal { n := 186, t := [(0, V.sle 0 1 0 n cap), (1, V.raw (Value.int IntKind.i64 o)), (2, V.raw (Value.int IntKind.i64 a)), (3, V.raw (Value.int IntKind.i64 p)), (4, V.raw (Value.int IntKind.i64 b)), (11, V.raw (Value.int IntKind.i64 (IntKind.i64.wrap (4 + (g 0).tmod 50)))), (12, V.lse 2 1 1 0 1), (13, V.raw (Value.int IntKind.i64 1))], s := [Ent.arr AM.ro [Col.int IntKind.i64 g] n 0, Ent.no, Ent.arr (AM.grow 1) [Col.int IntKind.i64 fun j ↦ [1].getD j 0] 1 3] })))
  | false => False)
 | false => False)
| false => K (Ex.exit 0) { n := 186, t := [(0, V.sle 0 1 0 n cap), (1, V.raw (Value.int IntKind.i64 o)), (2, V.raw (Value.int IntKind.i64 a)), (3, V.raw (Value.int IntKind.i64 p)), (4, V.raw (Value.int IntKind.i64 b)), (11, V.raw (Value.int IntKind.i64 1)), (12, V.raw (Value.slice none 0 0)), (13, V.raw (Value.int IntKind.i64 0))], s := [Ent.arr AM.ro [Col.int IntKind.i64 g] n 0] })
set_option maxRecDepth 1000000 in
theorem bodyA_eq (g : Nat → Int) (n cap : Nat) (o a p b : Int) (K : Ex → St → Prop) : evG Try.prog noD 60 (lft (subAt p1 (codeOf Try.prog 3))) (SA g n cap o a p b) (fun e st => K e (gcSt 1 live1 st)) = bodyA_f g  n cap  o a p b  K := by kernel_rfl
def bodyB_f (g : Nat → Int) (n cap : Nat) (o a p b : Int) (W : Int) (i : Nat) (f : Nat → Int) (K : Ex → St → Prop) : Prop :=
(match decide ((↑i : Int) < (↑n : Int)) with
| true => (match decide ((↑i : Int) < (↑n : Int)) with
 | true => (match ((↑i : Int).toNat + 0).blt n with
  | true => (match decide ((g ((↑i : Int).toNat + 0)).tmod 50 < 0) with
   | true => (match i.ble i with
    | true => (match growOk (i + 1) 8 with
     | true => (match decide (IntKind.i64.wrap (0 - (g ((↑i : Int).toNat + 0)).tmod 50) < 0) with
      | true => (match 0 != IntKind.u64.wrap (IntKind.i64.wrap (24 + IntKind.i64.wrap (8 * IntKind.i64.wrap (0 - (g ((↑i : Int).toNat + 0)).tmod 50)))) with
       | true => K Ex.ret { n := 186, t := [(0, V.sle 0 1 0 n cap), (1, V.raw (Value.int IntKind.i64 o)), (2, V.raw (Value.int IntKind.i64 a)), (3, V.raw (Value.int IntKind.i64 p)), (4, V.raw (Value.int IntKind.i64 b)), (11, V.raw (Value.int IntKind.i64 W)), (12, V.lse 2 1 1 0 (i + 1)), (13, V.raw (Value.int IntKind.i64 (↑i : Int)))], s := [Ent.arr AM.ro [Col.int IntKind.i64 g] n 0, Ent.no, Ent.arr (AM.grow 1) [Col.int IntKind.i64 fun j ↦ match j.blt i with | true => f j | false => [W].getD (j - i) 0] (i + 1) 3] }
       | false => K Ex.normal { n := 186, t := [(0, V.sle 0 1 0 n cap), (1, V.raw (Value.int IntKind.i64 o)), (2, V.raw (Value.int IntKind.i64 a)), (3, V.raw (Value.int IntKind.i64 p)), (4, V.raw (Value.int IntKind.i64 b)), (11, V.raw (Value.int IntKind.i64 (IntKind.i64.wrap (IntKind.i64.wrap (W + 3) + IntKind.i64.wrap (0 - (g ((↑i : Int).toNat + 0)).tmod 50))))), (12, V.lse 2 1 1 0 (i + 1)), (13, V.raw (Value.int IntKind.i64 (IntKind.i64.wrap ((↑i : Int) + 1))))], s := [Ent.arr AM.ro [Col.int IntKind.i64 g] n 0, Ent.no, Ent.arr (AM.grow 1) [Col.int IntKind.i64 fun j ↦ match j.blt i with | true => f j | false => [W].getD (j - i) 0] (i + 1) 3] })
      | false => (match IntKind.u64.wrap (24 + IntKind.u64.wrap (8 * IntKind.u64.wrap (IntKind.i64.wrap (0 - (g ((↑i : Int).toNat + 0)).tmod 50)))) != IntKind.u64.wrap (IntKind.i64.wrap (24 + IntKind.i64.wrap (8 * IntKind.i64.wrap (0 - (g ((↑i : Int).toNat + 0)).tmod 50)))) with
       | true => K Ex.ret { n := 186, t := [(0, V.sle 0 1 0 n cap), (1, V.raw (Value.int IntKind.i64 o)), (2, V.raw (Value.int IntKind.i64 a)), (3, V.raw (Value.int IntKind.i64 p)), (4, V.raw (Value.int IntKind.i64 b)), (11, V.raw (Value.int IntKind.i64 W)), (12, V.lse 2 1 1 0 (i + 1)), (13, V.raw (Value.int IntKind.i64 (↑i : Int)))], s := [Ent.arr AM.ro [Col.int IntKind.i64 g] n 0, Ent.no, Ent.arr (AM.grow 1) [Col.int IntKind.i64 fun j ↦ match j.blt i with | true => f j | false => [W].getD (j - i) 0] (i + 1) 3] }
       | false => K Ex.normal { n := 186, t := [(0, V.sle 0 1 0 n cap), (1, V.raw (Value.int IntKind.i64 o)), (2, V.raw (Value.int IntKind.i64 a)), (3, V.raw (Value.int IntKind.i64 p)), (4, V.raw (Value.int IntKind.i64 b)), (11, V.raw (Value.int IntKind.i64 (IntKind.i64.wrap (IntKind.i64.wrap (W + 3) + IntKind.i64.wrap (0 - (g ((↑i : Int).toNat + 0)).tmod 50))))), (12, V.lse 2 1 1 0 (i + 1)), (13, V.raw (Value.int IntKind.i64 (IntKind.i64.wrap ((↑i : Int) + 1))))], s := [Ent.arr AM.ro [Col.int IntKind.i64 g] n 0, Ent.no, Ent.arr (AM.grow 1) [Col.int IntKind.i64 fun j ↦ match j.blt i with | true => f j | false => [W].getD (j - i) 0] (i + 1) 3] }))
     | false => False)
    | false => False)
   | false => (match i.ble i with
    | true => (match growOk (i + 1) 8 with
     | true => (match decide ((g ((↑i : Int).toNat + 0)).tmod 50 < 0) with
      | true => (match 0 != IntKind.u64.wrap (IntKind.i64.wrap (24 + IntKind.i64.wrap (8 * (g ((↑i : Int).toNat + 0)).tmod 50))) with
       | true => K Ex.ret { n := 186, t := [(0, V.sle 0 1 0 n cap), (1, V.raw (Value.int IntKind.i64 o)), (2, V.raw (Value.int IntKind.i64 a)), (3, V.raw (Value.int IntKind.i64 p)), (4, V.raw (Value.int IntKind.i64 b)), (11, V.raw (Value.int IntKind.i64 W)), (12, V.lse 2 1 1 0 (i + 1)), (13, V.raw (Value.int IntKind.i64 (↑i : Int)))], s := [Ent.arr AM.ro [Col.int IntKind.i64 g] n 0, Ent.no, Ent.arr (AM.grow 1) [Col.int IntKind.i64 fun j ↦ match j.blt i with | true => f j | false => [W].getD (j - i) 0] (i + 1) 3] }
       | false => K Ex.normal { n := 186, t := [(0, V.sle 0 1 0 n cap), (1, V.raw (Value.int IntKind.i64 o)), (2, V.raw (Value.int IntKind.i64 a)), (3, V.raw (Value.int IntKind.i64 p)), (4, V.raw (Value.int IntKind.i64 b)), (11, V.raw (Value.int IntKind.i64 (IntKind.i64.wrap (IntKind.i64.wrap (W + 3) + (g ((↑i : Int).toNat + 0)).tmod 50)))), (12, V.lse 2 1 1 0 (i + 1)), (13, V.raw (Value.int IntKind.i64 (IntKind.i64.wrap ((↑i : Int) + 1))))], s := [Ent.arr AM.ro [Col.int IntKind.i64 g] n 0, Ent.no, Ent.arr (AM.grow 1) [Col.int IntKind.i64 fun j ↦ match j.blt i with | true => f j | false => [W].getD (j - i) 0] (i + 1) 3] })
      | false => (match IntKind.u64.wrap (24 + IntKind.u64.wrap (8 * IntKind.u64.wrap ((g ((↑i : Int).toNat + 0)).tmod 50))) != IntKind.u64.wrap (IntKind.i64.wrap (24 + IntKind.i64.wrap (8 * (g ((↑i : Int).toNat + 0)).tmod 50))) with
       | true => K Ex.ret { n := 186, t := [(0, V.sle 0 1 0 n cap), (1, V.raw (Value.int IntKind.i64 o)), (2, V.raw (Value.int IntKind.i64 a)), (3, V.raw (Value.int IntKind.i64 p)), (4, V.raw (Value.int IntKind.i64 b)), (11, V.raw (Value.int IntKind.i64 W)), (12, V.lse 2 1 1 0 (i + 1)), (13, V.raw (Value.int IntKind.i64 (↑i : Int)))], s := [Ent.arr AM.ro [Col.int IntKind.i64 g] n 0, Ent.no, Ent.arr (AM.grow 1) [Col.int IntKind.i64 fun j ↦ match j.blt i with | true => f j | false => [W].getD (j - i) 0] (i + 1) 3] }
       | false => K Ex.normal { n := 186, t := [(0, V.sle 0 1 0 n cap), (1, V.raw (Value.int IntKind.i64 o)), (2, V.raw (Value.int IntKind.i64 a)), (3, V.raw (Value.int IntKind.i64 p)), (4, V.raw (Value.int IntKind.i64 b)), (11, V.raw (Value.int IntKind.i64 (IntKind.i64.wrap (IntKind.i64.wrap (W + 3) + (g ((↑i : Int).toNat + 0)).tmod 50)))), (12, V.lse 2 1 1 0 (i + 1)), (13, V.raw (Value.int IntKind.i64 (IntKind.i64.wrap ((↑i : Int) + 1))))], s := [Ent.arr AM.ro [Col.int IntKind.i64 g] n 0, Ent.no, Ent.arr (AM.grow 1) [Col.int IntKind.i64 fun j ↦ match j.blt i with | true => f j | false => [W].getD (j - i) 0] (i + 1) 3] }))
     | false => False)
    | false => False))
  | false => False)
 | false => False)
| false => K (Ex.exit 0) { n := 186, t := [(0, V.sle 0 1 0 n cap), (1, V.raw (Value.int IntKind.i64 o)), (2, V.raw (Value.int IntKind.i64 a)), (3, V.raw (Value.int IntKind.i64 p)), (4, V.raw (Value.int IntKind.i64 b)), (11, V.raw (Value.int IntKind.i64 W)), (12, V.lse 2 1 1 0 i), (13, V.raw (Value.int IntKind.i64 (↑i : Int)))], s := [Ent.arr AM.ro [Col.int IntKind.i64 g] n 0, Ent.no, Ent.arr (AM.grow 1) [Col.int IntKind.i64 f] i 3] })
set_option maxRecDepth 1000000 in
theorem bodyB_eq (g : Nat → Int) (n cap : Nat) (o a p b : Int) (W : Int) (i : Nat) (f : Nat → Int) (K : Ex → St → Prop) : evG Try.prog noD 60 (lft (subAt p1 (codeOf Try.prog 3))) (SB g n cap o a p b W i f) (fun e st => K e (gcSt 1 live1 st)) = bodyB_f g  n cap  o a p b  W  i  f  K := by kernel_rfl
def midA_f (g : Nat → Int) (q cap : Nat) (o a p b : Int) (W : Int) (f : Nat → Int) (K : Res → Prop) (Z : St → Prop) : Prop :=
(match decide (W > 65536) with
| true => K (Res.ret (V.raw (Value.bool true)))
| false => (match (q + 1).ble (q + 1) with
 | true => (match growOk (q + 1 + 1) 8 with
  | true => Z { n := 186, t := [(0, V.sle 0 1 0 (q + 1) cap), (1, V.raw (Value.int IntKind.i64 (o.tmod (↑(q + 1) : Int)))), (2, V.raw (Value.int IntKind.i64 a)), (3, V.raw (Value.int IntKind.i64 (p.tmod (↑(q + 1) : Int)))), (4, V.raw (Value.int IntKind.i64 b)), (12, V.lse 2 1 1 0 (q + 1 + 1))], s := [Ent.arr AM.ro [Col.int IntKind.i64 g] (q + 1) 0, Ent.no, Ent.arr (AM.grow 1) [Col.int IntKind.i64 fun j ↦ match j.blt (q + 1) with | true => f j | false => [W].getD (j - (q + 1)) 0] (q + 1 + 1) 3] }
  | false => False)
 | false => False))
set_option maxRecDepth 1000000 in
theorem midA_eq (g : Nat → Int) (q cap : Nat) (o a p b : Int) (W : Int) (f : Nat → Int) (K : Res → Prop) (Z : St → Prop) : evTo Try.prog noD 60 1 (fun st => Z (gcSt 1 live2 st)) (pathS 22 c1) c1 (SB g (q + 1) cap o a p b W (q + 1) f) (bodyK False Try.prog (funcOf Try.prog 3) (fun r _ => K r)) = midA_f g  q cap  o a p b  W  f  K  Z := by kernel_rfl
def midB_f (g : Nat → Int) (n cap : Nat) (O a P b : Int) (m : Nat) (f : Nat → Int) (K : Res → Prop) (Z : St → Prop) : Prop :=
(match decide (O < 0) with
| true => K (Res.ret (V.raw (Value.bool true)))
| false => (match decide (P < 0) with
 | true => K (Res.ret (V.raw (Value.bool true)))
 | false => (match decide (a < 0) with
  | true => K (Res.ret (V.raw (Value.bool true)))
  | false => (match decide (b < 0) with
   | true => K (Res.ret (V.raw (Value.bool true)))
   | false => (match decide (0 ≤ IntKind.i64.wrap (O + 1)) with
    | true => (match decide (IntKind.i64.wrap (O + 1) < (↑m : Int)) with
     | true => (match ((IntKind.i64.wrap (O + 1)).toNat + 0).blt m with
      | true => (match decide (0 ≤ O) with
       | true => (match decide (O < (↑m : Int)) with
        | true => (match (O.toNat + 0).blt m with
         | true => (match decide (a ≥ IntKind.i64.wrap (IntKind.i64.wrap (f ((IntKind.i64.wrap (O + 1)).toNat + 0) - f (O.toNat + 0)) - 3)) with
          | true => K (Res.ret (V.raw (Value.bool true)))
          | false => (match decide (0 ≤ IntKind.i64.wrap (P + 1)) with
           | true => (match decide (IntKind.i64.wrap (P + 1) < (↑m : Int)) with
            | true => (match ((IntKind.i64.wrap (P + 1)).toNat + 0).blt m with
             | true => (match decide (0 ≤ P) with
              | true => (match decide (P < (↑m : Int)) with
               | true => (match (P.toNat + 0).blt m with
                | true => (match decide (b ≥ IntKind.i64.wrap (IntKind.i64.wrap (f ((IntKind.i64.wrap (P + 1)).toNat + 0) - f (P.toNat + 0)) - 3)) with
                 | true => K (Res.ret (V.raw (Value.bool true)))
                 | false => Z { n := 186, t := [(0, V.sle 0 1 0 n cap), (1, V.raw (Value.int IntKind.i64 O)), (2, V.raw (Value.int IntKind.i64 a)), (3, V.raw (Value.int IntKind.i64 P)), (4, V.raw (Value.int IntKind.i64 b)), (12, V.lse 2 1 1 0 m)], s := [Ent.arr AM.ro [Col.int IntKind.i64 g] n 0, Ent.no, Ent.arr (AM.grow 1) [Col.int IntKind.i64 f] m 3] })
                | false => False)
               | false => False)
              | false => False)
             | false => False)
            | false => False)
           | false => False))
         | false => False)
        | false => False)
       | false => False)
      | false => False)
     | false => False)
    | false => False)))))
set_option maxRecDepth 1000000 in
theorem midB_eq (g : Nat → Int) (n cap : Nat) (O a P b : Int) (m : Nat) (f : Nat → Int) (K : Res → Prop) (Z : St → Prop) : evTo Try.prog noD 60 1 (fun st => Z (gcSt 1 live2 st)) (pathS 24 c22) c22 (SD g n cap O a P b m f) (bodyK False Try.prog (funcOf Try.prog 3) (fun r _ => K r)) = midB_f g  n cap  O a P b  m  f  K  Z := by kernel_rfl
def midC_f (g : Nat → Int) (n cap : Nat) (O P : Nat) (a b : Int) (m : Nat) (f : Nat → Int) (K : Res → Prop) (Z : St → Prop) : Prop :=
(match decide ((↑O : Int) < (↑m : Int)) with
| true => (match ((↑O : Int).toNat + 0).blt m with
 | true => (match decide (f ((↑O : Int).toNat + 0) < 1) with
  | true => Z { n := 186, t := [(0, V.sle 0 1 0 n cap), (1, V.raw (Value.int IntKind.i64 (↑O : Int))), (2, V.raw (Value.int IntKind.i64 a)), (3, V.raw (Value.int IntKind.i64 (↑P : Int))), (4, V.raw (Value.int IntKind.i64 b)), (12, V.lse 2 1 1 0 m), (15, V.raw (Value.int IntKind.u64 0))], s := [Ent.arr AM.ro [Col.int IntKind.i64 g] n 0, Ent.no, Ent.arr (AM.grow 1) [Col.int IntKind.i64 f] m 3] }
  | false => (match decide (f ((↑O : Int).toNat + 0) > 65536) with
   | true => Z { n := 186, t := [(0, V.sle 0 1 0 n cap), (1, V.raw (Value.int IntKind.i64 (↑O : Int))), (2, V.raw (Value.int IntKind.i64 a)), (3, V.raw (Value.int IntKind.i64 (↑P : Int))), (4, V.raw (Value.int IntKind.i64 b)), (12, V.lse 2 1 1 0 m), (15, V.raw (Value.int IntKind.u64 0))], s := [Ent.arr AM.ro [Col.int IntKind.i64 g] n 0, Ent.no, Ent.arr (AM.grow 1) [Col.int IntKind.i64 f] m 3] }
   | false => (match IntKind.u64.wrap (2097152 + IntKind.u64.wrap (8 * IntKind.u64.wrap (IntKind.i64.wrap (f ((↑O : Int).toNat + 0) - 1)))) == 0 with
    | true => Z { n := 186, t := [(0, V.sle 0 1 0 n cap), (1, V.raw (Value.int IntKind.i64 (↑O : Int))), (2, V.raw (Value.int IntKind.i64 a)), (3, V.raw (Value.int IntKind.i64 (↑P : Int))), (4, V.raw (Value.int IntKind.i64 b)), (12, V.lse 2 1 1 0 m), (15, V.raw (Value.int IntKind.u64 0))], s := [Ent.arr AM.ro [Col.int IntKind.i64 g] n 0, Ent.no, Ent.arr (AM.grow 1) [Col.int IntKind.i64 f] m 3] }
    | false => (match decide (a < 0) with
     | true => Z { n := 186, t := [(0, V.sle 0 1 0 n cap), (1, V.raw (Value.int IntKind.i64 (↑O : Int))), (2, V.raw (Value.int IntKind.i64 a)), (3, V.raw (Value.int IntKind.i64 (↑P : Int))), (4, V.raw (Value.int IntKind.i64 b)), (12, V.lse 2 1 1 0 m), (15, V.raw (Value.int IntKind.u64 0))], s := [Ent.arr AM.ro [Col.int IntKind.i64 g] n 0, Ent.no, Ent.arr (AM.grow 1) [Col.int IntKind.i64 f] m 3] }
     | false => Z { n := 186, t := [(0, V.sle 0 1 0 n cap), (1, V.raw (Value.int IntKind.i64 (↑O : Int))), (2, V.raw (Value.int IntKind.i64 a)), (3, V.raw (Value.int IntKind.i64 (↑P : Int))), (4, V.raw (Value.int IntKind.i64 b)), (12, V.lse 2 1 1 0 m), (15, V.raw (Value.int IntKind.u64 (IntKind.u64.wrap (IntKind.u64.wrap (IntKind.u64.wrap (2097152 + IntKind.u64.wrap (8 * IntKind.u64.wrap (IntKind.i64.wrap (f ((↑O : Int).toNat + 0) - 1)))) + 24) + IntKind.u64.wrap (8 * IntKind.u64.wrap a)))))], s := [Ent.arr AM.ro [Col.int IntKind.i64 g] n 0, Ent.no, Ent.arr (AM.grow 1) [Col.int IntKind.i64 f] m 3] }))))
 | false => False)
| false => False)
set_option maxRecDepth 1000000 in
theorem midC_eq (g : Nat → Int) (n cap : Nat) (O P : Nat) (a b : Int) (m : Nat) (f : Nat → Int) (K : Res → Prop) (Z : St → Prop) : evTo Try.prog noD 60 1 (fun st => Z (gcSt 1 live25 st)) (pathS 25 c24) c24 (SD g n cap O a P b m f) (bodyK False Try.prog (funcOf Try.prog 3) (fun r _ => K r)) = midC_f g  n cap  O P  a b  m  f  K  Z := by kernel_rfl
def midD_f (g : Nat → Int) (n cap : Nat) (O P : Nat) (a b x : Int) (m : Nat) (f : Nat → Int) (K : Res → Prop) (Z : St → Prop) : Prop :=
(match decide ((↑P : Int) < (↑m : Int)) with
| true => (match ((↑P : Int).toNat + 0).blt m with
 | true => (match decide (f ((↑P : Int).toNat + 0) < 1) with
  | true => Z { n := 186, t := [(0, V.sle 0 1 0 n cap), (1, V.raw (Value.int IntKind.i64 (↑O : Int))), (2, V.raw (Value.int IntKind.i64 a)), (3, V.raw (Value.int IntKind.i64 (↑P : Int))), (4, V.raw (Value.int IntKind.i64 b)), (12, V.lse 2 1 1 0 m), (15, V.raw (Value.int IntKind.u64 x)), (16, V.raw (Value.int IntKind.u64 0))], s := [Ent.arr AM.ro [Col.int IntKind.i64 g] n 0, Ent.no, Ent.arr (AM.grow 1) [Col.int IntKind.i64 f] m 3] }
  | false => (match decide (f ((↑P : Int).toNat + 0) > 65536) with
   | true => Z { n := 186, t := [(0, V.sle 0 1 0 n cap), (1, V.raw (Value.int IntKind.i64 (↑O : Int))), (2, V.raw (Value.int IntKind.i64 a)), (3, V.raw (Value.int IntKind.i64 (↑P : Int))), (4, V.raw (Value.int IntKind.i64 b)), (12, V.lse 2 1 1 0 m), (15, V.raw (Value.int IntKind.u64 x)), (16, V.raw (Value.int IntKind.u64 0))], s := [Ent.arr AM.ro [Col.int IntKind.i64 g] n 0, Ent.no, Ent.arr (AM.grow 1) [Col.int IntKind.i64 f] m 3] }
   | false => (match IntKind.u64.wrap (2097152 + IntKind.u64.wrap (8 * IntKind.u64.wrap (IntKind.i64.wrap (f ((↑P : Int).toNat + 0) - 1)))) == 0 with
    | true => Z { n := 186, t := [(0, V.sle 0 1 0 n cap), (1, V.raw (Value.int IntKind.i64 (↑O : Int))), (2, V.raw (Value.int IntKind.i64 a)), (3, V.raw (Value.int IntKind.i64 (↑P : Int))), (4, V.raw (Value.int IntKind.i64 b)), (12, V.lse 2 1 1 0 m), (15, V.raw (Value.int IntKind.u64 x)), (16, V.raw (Value.int IntKind.u64 0))], s := [Ent.arr AM.ro [Col.int IntKind.i64 g] n 0, Ent.no, Ent.arr (AM.grow 1) [Col.int IntKind.i64 f] m 3] }
    | false => (match decide (b < 0) with
     | true => Z { n := 186, t := [(0, V.sle 0 1 0 n cap), (1, V.raw (Value.int IntKind.i64 (↑O : Int))), (2, V.raw (Value.int IntKind.i64 a)), (3, V.raw (Value.int IntKind.i64 (↑P : Int))), (4, V.raw (Value.int IntKind.i64 b)), (12, V.lse 2 1 1 0 m), (15, V.raw (Value.int IntKind.u64 x)), (16, V.raw (Value.int IntKind.u64 0))], s := [Ent.arr AM.ro [Col.int IntKind.i64 g] n 0, Ent.no, Ent.arr (AM.grow 1) [Col.int IntKind.i64 f] m 3] }
     | false => Z { n := 186, t := [(0, V.sle 0 1 0 n cap), (1, V.raw (Value.int IntKind.i64 (↑O : Int))), (2, V.raw (Value.int IntKind.i64 a)), (3, V.raw (Value.int IntKind.i64 (↑P : Int))), (4, V.raw (Value.int IntKind.i64 b)), (12, V.lse 2 1 1 0 m), (15, V.raw (Value.int IntKind.u64 x)), (16, V.raw (Value.int IntKind.u64 (IntKind.u64.wrap (IntKind.u64.wrap (IntKind.u64.wrap (2097152 + IntKind.u64.wrap (8 * IntKind.u64.wrap (IntKind.i64.wrap (f ((↑P : Int).toNat + 0) - 1)))) + 24) + IntKind.u64.wrap (8 * IntKind.u64.wrap b)))))], s := [Ent.arr AM.ro [Col.int IntKind.i64 g] n 0, Ent.no, Ent.arr (AM.grow 1) [Col.int IntKind.i64 f] m 3] }))))
 | false => False)
| false => False)
set_option maxRecDepth 1000000 in
theorem midD_eq (g : Nat → Int) (n cap : Nat) (O P : Nat) (a b x : Int) (m : Nat) (f : Nat → Int) (K : Res → Prop) (Z : St → Prop) : evTo Try.prog noD 60 1 (fun st => Z (gcSt 1 live26 st)) (pathS 26 c25) c25 (SE g n cap O a P b x m f) (bodyK False Try.prog (funcOf Try.prog 3) (fun r _ => K r)) = midD_f g  n cap  O P  a b x  m  f  K  Z := by kernel_rfl
def midE_f (g : Nat → Int) (n cap : Nat) (O P : Nat) (a b x y : Int) (m : Nat) (f : Nat → Int) (K : Res → Prop) (Z : St → Prop) : Prop :=
(match (↑O : Int) == (↑P : Int) with
| true => (match !(x == y) == (a == b) with
 | true => K (Res.ret (V.raw (Value.bool false)))
 | false => (match decide ((↑O : Int) < (↑m : Int)) with
  | true => (match ((↑O : Int).toNat + 0).blt m with
   | true => (match decide (f ((↑O : Int).toNat + 0) < 1) with
    | true => (match decide (x < 24) with
     | true => K (Res.ret (V.raw (Value.bool false)))
     | false => (match decide ((↑O : Int) < (↑m : Int)) with
      | true => (match ((↑O : Int).toNat + 0).blt m with
       | true => (match decide (f ((↑O : Int).toNat + 0) < 1) with
        | true => (match decide (0 ≤ IntKind.i64.wrap ((↑O : Int) + 1)) with
         | true => (match decide (IntKind.i64.wrap ((↑O : Int) + 1) < (↑m : Int)) with
          | true => (match ((IntKind.i64.wrap ((↑O : Int) + 1)).toNat + 0).blt m with
           | true => (match decide ((↑O : Int) < (↑m : Int)) with
            | true => (match ((↑O : Int).toNat + 0).blt m with
             | true => (match decide (IntKind.i64.wrap (IntKind.i64.wrap (f ((IntKind.i64.wrap ((↑O : Int) + 1)).toNat + 0) - f ((↑O : Int).toNat + 0)) - 3) < 0) with
              | true => (match decide (IntKind.u64.wrap (x + 8) > 0) with
               | true => K (Res.ret (V.raw (Value.bool false)))
               | false => Z { n := 186, t := [(0, V.sle 0 1 0 n cap), (12, V.lse 2 1 1 0 m), (15, V.raw (Value.int IntKind.u64 x)), (17, V.raw (Value.int IntKind.i64 0))], s := [Ent.arr AM.ro [Col.int IntKind.i64 g] n 0, Ent.no, Ent.arr (AM.grow 1) [Col.int IntKind.i64 f] m 3] })
              | false => (match decide (IntKind.u64.wrap (x + 8) > IntKind.u64.wrap (0 + IntKind.u64.wrap (24 + IntKind.u64.wrap (8 * IntKind.u64.wrap (IntKind.i64.wrap (IntKind.i64.wrap (f ((IntKind.i64.wrap ((↑O : Int) + 1)).toNat + 0) - f ((↑O : Int).toNat + 0)) - 3)))))) with
               | true => K (Res.ret (V.raw (Value.bool false)))
               | false => Z { n := 186, t := [(0, V.sle 0 1 0 n cap), (12, V.lse 2 1 1 0 m), (15, V.raw (Value.int IntKind.u64 x)), (17, V.raw (Value.int IntKind.i64 0))], s := [Ent.arr AM.ro [Col.int IntKind.i64 g] n 0, Ent.no, Ent.arr (AM.grow 1) [Col.int IntKind.i64 f] m 3] }))
             | false => False)
            | false => False)
           | false => False)
          | false => False)
         | false => False)
        | false => (match decide (f ((↑O : Int).toNat + 0) > 65536) with
         | true => (match decide (0 ≤ IntKind.i64.wrap ((↑O : Int) + 1)) with
          | true => (match decide (IntKind.i64.wrap ((↑O : Int) + 1) < (↑m : Int)) with
           | true => (match ((IntKind.i64.wrap ((↑O : Int) + 1)).toNat + 0).blt m with
            | true => (match decide ((↑O : Int) < (↑m : Int)) with
             | true => (match ((↑O : Int).toNat + 0).blt m with
              | true => (match decide (IntKind.i64.wrap (IntKind.i64.wrap (f ((IntKind.i64.wrap ((↑O : Int) + 1)).toNat + 0) - f ((↑O : Int).toNat + 0)) - 3) < 0) with
               | true => (match decide (IntKind.u64.wrap (x + 8) > 0) with
                | true => K (Res.ret (V.raw (Value.bool false)))
                | false => Z { n := 186, t := [(0, V.sle 0 1 0 n cap), (12, V.lse 2 1 1 0 m), (15, V.raw (Value.int IntKind.u64 x)), (17, V.raw (Value.int IntKind.i64 0))], s := [Ent.arr AM.ro [Col.int IntKind.i64 g] n 0, Ent.no, Ent.arr (AM.grow 1) [Col.int IntKind.i64 f] m 3] })
               | false => (match decide (IntKind.u64.wrap (x + 8) > IntKind.u64.wrap (0 + IntKind.u64.wrap (24 + IntKind.u64.wrap (8 * IntKind.u64.wrap (IntKind.i64.wrap (IntKind.i64.wrap (f ((IntKind.i64.wrap ((↑O : Int) + 1)).toNat + 0) - f ((↑O : Int).toNat + 0)) - 3)))))) with
                | true => K (Res.ret (V.raw (Value.bool false)))
                | false => Z { n := 186, t := [(0, V.sle 0 1 0 n cap), (12, V.lse 2 1 1 0 m), (15, V.raw (Value.int IntKind.u64 x)), (17, V.raw (Value.int IntKind.i64 0))], s := [Ent.arr AM.ro [Col.int IntKind.i64 g] n 0, Ent.no, Ent.arr (AM.grow 1) [Col.int IntKind.i64 f] m 3] }))
              | false => False)
             | false => False)
            | false => False)
           | false => False)
          | false => False)
         | false => (match decide (0 ≤ IntKind.i64.wrap ((↑O : Int) + 1)) with
          | true => (match decide (IntKind.i64.wrap ((↑O : Int) + 1) < (↑m : Int)) with
           | true => (match ((IntKind.i64.wrap ((↑O : Int) + 1)).toNat + 0).blt m with
            | true => (match decide ((↑O : Int) < (↑m : Int)) with
             | true => (match ((↑O : Int).toNat + 0).blt m with
              | true => (match decide (IntKind.i64.wrap (IntKind.i64.wrap (f ((IntKind.i64.wrap ((↑O : Int) + 1)).toNat + 0) - f ((↑O : Int).toNat + 0)) - 3) < 0) with
               | true => (match decide (IntKind.u64.wrap (x + 8) > IntKind.u64.wrap (IntKind.u64.wrap (2097152 + IntKind.u64.wrap (8 * IntKind.u64.wrap (IntKind.i64.wrap (f ((↑O : Int).toNat + 0) - 1)))) + 0)) with
                | true => K (Res.ret (V.raw (Value.bool false)))
                | false => Z { n := 186, t := [(0, V.sle 0 1 0 n cap), (12, V.lse 2 1 1 0 m), (15, V.raw (Value.int IntKind.u64 x)), (17, V.raw (Value.int IntKind.i64 0))], s := [Ent.arr AM.ro [Col.int IntKind.i64 g] n 0, Ent.no, Ent.arr (AM.grow 1) [Col.int IntKind.i64 f] m 3] })
               | false => (match decide (IntKind.u64.wrap (x + 8) > IntKind.u64.wrap (IntKind.u64.wrap (2097152 + IntKind.u64.wrap (8 * IntKind.u64.wrap (IntKind.i64.wrap (f ((↑O : Int).toNat + 0) - 1)))) + IntKind.u64.wrap (24 + IntKind.u64.wrap (8 * IntKind.u64.wrap (IntKind.i64.wrap (IntKind.i64.wrap (f ((IntKind.i64.wrap ((↑O : Int) + 1)).toNat + 0) - f ((↑O : Int).toNat + 0)) - 3)))))) with
                | true => K (Res.ret (V.raw (Value.bool false)))
                | false => Z { n := 186, t := [(0, V.sle 0 1 0 n cap), (12, V.lse 2 1 1 0 m), (15, V.raw (Value.int IntKind.u64 x)), (17, V.raw (Value.int IntKind.i64 0))], s := [Ent.arr AM.ro [Col.int IntKind.i64 g] n 0, Ent.no, Ent.arr (AM.grow 1) [Col.int IntKind.i64 f] m 3] }))
              | false => False)
             | false => False)
            | false => False)
           | false => False)
          | false => False)))
       | false => False)
      | false => False))
    | false => (match decide (f ((↑O : Int).toNat + 0) > 65536) with
     | true => (match decide (x < 24) with
      | true => K (Res.ret (V.raw (Value.bool false)))
      | false => (match decide ((↑O : Int) < (↑m : Int)) with
       | true => (match ((↑O : Int).toNat + 0).blt m with
        | true => (match decide (f ((↑O : Int).toNat + 0) < 1) with
         | true => (match decide (0 ≤ IntKind.i64.wrap ((↑O : Int) + 1)) with
          | true => (match decide (IntKind.i64.wrap ((↑O : Int) + 1) < (↑m : Int)) with
           | true => (match ((IntKind.i64.wrap ((↑O : Int) + 1)).toNat + 0).blt m with
            | true => (match decide ((↑O : Int) < (↑m : Int)) with
             | true => (match ((↑O : Int).toNat + 0).blt m with
              | true => (match decide (IntKind.i64.wrap (IntKind.i64.wrap (f ((IntKind.i64.wrap ((↑O : Int) + 1)).toNat + 0) - f ((↑O : Int).toNat + 0)) - 3) < 0) with
               | true => (match decide (IntKind.u64.wrap (x + 8) > 0) with
                | true => K (Res.ret (V.raw (Value.bool false)))
                | false => Z { n := 186, t := [(0, V.sle 0 1 0 n cap), (12, V.lse 2 1 1 0 m), (15, V.raw (Value.int IntKind.u64 x)), (17, V.raw (Value.int IntKind.i64 0))], s := [Ent.arr AM.ro [Col.int IntKind.i64 g] n 0, Ent.no, Ent.arr (AM.grow 1) [Col.int IntKind.i64 f] m 3] })
               | false => (match decide (IntKind.u64.wrap (x + 8) > IntKind.u64.wrap (0 + IntKind.u64.wrap (24 + IntKind.u64.wrap (8 * IntKind.u64.wrap (IntKind.i64.wrap (IntKind.i64.wrap (f ((IntKind.i64.wrap ((↑O : Int) + 1)).toNat + 0) - f ((↑O : Int).toNat + 0)) - 3)))))) with
                | true => K (Res.ret (V.raw (Value.bool false)))
                | false => Z { n := 186, t := [(0, V.sle 0 1 0 n cap), (12, V.lse 2 1 1 0 m), (15, V.raw (Value.int IntKind.u64 x)), (17, V.raw (Value.int IntKind.i64 0))], s := [Ent.arr AM.ro [Col.int IntKind.i64 g] n 0, Ent.no, Ent.arr (AM.grow 1) [Col.int IntKind.i64 f] m 3] }))
              | false => False)
             | false => False)
            | false => False)
           | false => False)
          | false => False)
         | false => (match decide (f ((↑O : Int).toNat + 0) > 65536) with
          | true => (match decide (0 ≤ IntKind.i64.wrap ((↑O : Int) + 1)) with
           | true => (match decide (IntKind.i64.wrap ((↑O : Int) + 1) < (↑m : Int)) with
            | true => (match ((IntKind.i64.wrap ((↑O : Int) + 1)).toNat + 0).blt m with
             | true => (match decide ((↑O : Int) < (↑m : Int)) with
              | true => (match ((↑O : Int).toNat + 0).blt m with
               | true => (match decide (IntKind.i64.wrap (IntKind.i64.wrap (f ((IntKind.i64.wrap ((↑O : Int) + 1)).toNat + 0) - f ((↑O : Int).toNat + 0)) - 3) < 0) with
                | true => (match decide (IntKind.u64.wrap (x + 8) > 0) with
                 | true => K (Res.ret (V.raw (Value.bool false)))
                 | false => Z { n := 186, t := [(0, V.sle 0 1 0 n cap), (12, V.lse 2 1 1 0 m), (15, V.raw (Value.int IntKind.u64 x)), (17, V.raw (Value.int IntKind.i64 0))], s := [Ent.arr AM.ro [Col.int IntKind.i64 g] n 0, Ent.no, Ent.arr (AM.grow 1) [Col.int IntKind.i64 f] m 3] })
                | false => (match decide (IntKind.u64.wrap (x + 8) > IntKind.u64.wrap (0 + IntKind.u64.wrap (24 + IntKind.u64.wrap (8 * IntKind.u64.wrap (IntKind.i64.wrap (IntKind.i64.wrap (f ((IntKind.i64.wrap ((↑O : Int) + 1)).toNat + 0) - f ((↑O : Int).toNat + 0)) - 3)))))) with
                 | true => K (Res.ret (V.raw (Value.bool false)))
                 | false => Z { n := 186, t := [(0, V.sle 0 1 0 n cap), (12, V.lse 2 1 1 0 m), (15, V.raw (Value.int IntKind.u64 x)), (17, V.raw (Value.int IntKind.i64 0))], s := [Ent.arr AM.ro [Col.int IntKind.i64 g] n 0, Ent.no, Ent.arr (AM.grow 1) [Col.int IntKind.i64 f] m 3] }))
               | false => False)
              | false => False)
             | false => False)
            | false => False)
           | false => False)
          | false => (match decide (0 ≤ IntKind.i64.wrap ((↑O : Int) + 1)) with
           | true => (match decide (IntKind.i64.wrap ((↑O : Int) + 1) < (↑m : Int)) with
            | true => (match ((IntKind.i64.wrap ((↑O : Int) + 1)).toNat + 0).blt m with
             | true => (match decide ((↑O : Int) < (↑m : Int)) with
              | true => (match ((↑O : Int).toNat + 0).blt m with
               | true => (match decide (IntKind.i64.wrap (IntKind.i64.wrap (f ((IntKind.i64.wrap ((↑O : Int) + 1)).toNat + 0) - f ((↑O : Int).toNat + 0)) - 3) < 0) with
                | true => (match decide (IntKind.u64.wrap (x + 8) > IntKind.u64.wrap (IntKind.u64.wrap (2097152 + IntKind.u64.wrap (8 * IntKind.u64.wrap (IntKind.i64.wrap (f ((↑O : Int).toNat + 0) - 1)))) + 0)) with
                 | true => K (Res.ret (V.raw (Value.bool false)))
                 | false => Z { n := 186, t := [(0, V.sle 0 1 0 n cap), (12, V.lse 2 1 1 0 m), (15, V.raw (Value.int IntKind.u64 x)), (17, V.raw (Value.int IntKind.i64 0))], s := [Ent.arr AM.ro [Col.int IntKind.i64 g] n 0, Ent.no, Ent.arr (AM.grow 1) [Col.int IntKind.i64 f] m 3] })
                | false => (match decide (IntKind.u64.wrap (x + 8) > IntKind.u64.wrap (IntKind.u64.wrap (2097152 + IntKind.u64.wrap (8 * IntKind.u64.wrap (IntKind.i64.wrap (f ((↑O : Int).toNat + 0) - 1)))) + IntKind.u64.wrap (24 + IntKind.u64.wrap (8 * IntKind.u64.wrap (IntKind.i64.wrap (IntKind.i64.wrap (f ((IntKind.i64.wrap ((↑O : Int) + 1)).toNat + 0) - f ((↑O : Int).toNat + 0)) - 3)))))) with
                 | true => K (Res.ret (V.raw (Value.bool false)))
                 | false => Z { n := 186, t := [(0, V.sle 0 1 0 n cap), (12, V.lse 2 1 1 0 m), (15, V.raw (Value.int IntKind.u64 x)), (17, V.raw (Value.int IntKind.i64 0))], s := [Ent.arr AM.ro [Col.int IntKind.i64 g] n 0, Ent.no, Ent.arr (AM.grow 1) [Col.int IntKind.i64 f] m 3] }))
               | false => False)
              | false => False)
             | false => False)
            | false => False)
           | false => False)))
        | false => False)
       | false => False))
     | false => (match decide (x < IntKind.u64.wrap (IntKind.u64.wrap (2097152 + IntKind.u64.wrap (8 * IntKind.u64.wrap (IntKind.i64.wrap (f ((↑O : Int).toNat + 0) - 1)))) + 24)) with
      | true => K (Res.ret (V.raw (Value.bool false)))
      | false => (match decide ((↑O : Int) < (↑m : Int)) with
       | true => (match ((↑O : Int).toNat + 0).blt m with
        | true => (match decide (f ((↑O : Int).toNat + 0) < 1) with
         | true => (match decide (0 ≤ IntKind.i64.wrap ((↑O : Int) + 1)) with
          | true => (match decide (IntKind.i64.wrap ((↑O : Int) + 1) < (↑m : Int)) with
           | true => (match ((IntKind.i64.wrap ((↑O : Int) + 1)).toNat + 0).blt m with
            | true => (match decide ((↑O : Int) < (↑m : Int)) with
             | true => (match ((↑O : Int).toNat + 0).blt m with
              | true => (match decide (IntKind.i64.wrap (IntKind.i64.wrap (f ((IntKind.i64.wrap ((↑O : Int) + 1)).toNat + 0) - f ((↑O : Int).toNat + 0)) - 3) < 0) with
               | true => (match decide (IntKind.u64.wrap (x + 8) > 0) with
                | true => K (Res.ret (V.raw (Value.bool false)))
                | false => Z { n := 186, t := [(0, V.sle 0 1 0 n cap), (12, V.lse 2 1 1 0 m), (15, V.raw (Value.int IntKind.u64 x)), (17, V.raw (Value.int IntKind.i64 0))], s := [Ent.arr AM.ro [Col.int IntKind.i64 g] n 0, Ent.no, Ent.arr (AM.grow 1) [Col.int IntKind.i64 f] m 3] })
               | false => (match decide (IntKind.u64.wrap (x + 8) > IntKind.u64.wrap (0 + IntKind.u64.wrap (24 + IntKind.u64.wrap (8 * IntKind.u64.wrap (IntKind.i64.wrap (IntKind.i64.wrap (f ((IntKind.i64.wrap ((↑O : Int) + 1)).toNat + 0) - f ((↑O : Int).toNat + 0)) - 3)))))) with
                | true => K (Res.ret (V.raw (Value.bool false)))
                | false => Z { n := 186, t := [(0, V.sle 0 1 0 n cap), (12, V.lse 2 1 1 0 m), (15, V.raw (Value.int IntKind.u64 x)), (17, V.raw (Value.int IntKind.i64 0))], s := [Ent.arr AM.ro [Col.int IntKind.i64 g] n 0, Ent.no, Ent.arr (AM.grow 1) [Col.int IntKind.i64 f] m 3] }))
              | false => False)
             | false => False)
            | false => False)
           | false => False)
          | false => False)
         | false => (match decide (f ((↑O : Int).toNat + 0) > 65536) with
          | true => (match decide (0 ≤ IntKind.i64.wrap ((↑O : Int) + 1)) with
           | true => (match decide (IntKind.i64.wrap ((↑O : Int) + 1) < (↑m : Int)) with
            | true => (match ((IntKind.i64.wrap ((↑O : Int) + 1)).toNat + 0).blt m with
             | true => (match decide ((↑O : Int) < (↑m : Int)) with
              | true => (match ((↑O : Int).toNat + 0).blt m with
               | true => (match decide (IntKind.i64.wrap (IntKind.i64.wrap (f ((IntKind.i64.wrap ((↑O : Int) + 1)).toNat + 0) - f ((↑O : Int).toNat + 0)) - 3) < 0) with
                | true => (match decide (IntKind.u64.wrap (x + 8) > 0) with
                 | true => K (Res.ret (V.raw (Value.bool false)))
                 | false => Z { n := 186, t := [(0, V.sle 0 1 0 n cap), (12, V.lse 2 1 1 0 m), (15, V.raw (Value.int IntKind.u64 x)), (17, V.raw (Value.int IntKind.i64 0))], s := [Ent.arr AM.ro [Col.int IntKind.i64 g] n 0, Ent.no, Ent.arr (AM.grow 1) [Col.int IntKind.i64 f] m 3] })
                | false => (match decide (IntKind.u64.wrap (x + 8) > IntKind.u64.wrap (0 + IntKind.u64.wrap (24 + IntKind.u64.wrap (8 * IntKind.u64.wrap (IntKind.i64.wrap (IntKind.i64.wrap (f ((IntKind.i64.wrap ((↑O : Int) + 1)).toNat + 0) - f ((↑O : Int).toNat + 0)) - 3)))))) with
                 | true => K (Res.ret (V.raw (Value.bool false)))
                 | false => Z { n := 186, t := [(0, V.sle 0 1 0 n cap), (12, V.lse 2 1 1 0 m), (15, V.raw (Value.int IntKind.u64 x)), (17, V.raw (Value.int IntKind.i64 0))], s := [Ent.arr AM.ro [Col.int IntKind.i64 g] n 0, Ent.no, Ent.arr (AM.grow 1) [Col.int IntKind.i64 f] m 3] }))
               | false => False)
              | false => False)
             | false => False)
            | false => False)
           | false => False)
          | false => (match decide (0 ≤ IntKind.i64.wrap ((↑O : Int) + 1)) with
           | true => (match decide (IntKind.i64.wrap ((↑O : Int) + 1) < (↑m : Int)) with
            | true => (match ((IntKind.i64.wrap ((↑O : Int) + 1)).toNat + 0).blt m with
             | true => (match decide ((↑O : Int) < (↑m : Int)) with
              | true => (match ((↑O : Int).toNat + 0).blt m with
               | true => (match decide (IntKind.i64.wrap (IntKind.i64.wrap (f ((IntKind.i64.wrap ((↑O : Int) + 1)).toNat + 0) - f ((↑O : Int).toNat + 0)) - 3) < 0) with
                | true => (match decide (IntKind.u64.wrap (x + 8) > IntKind.u64.wrap (IntKind.u64.wrap (2097152 + IntKind.u64.wrap (8 * IntKind.u64.wrap (IntKind.i64.wrap (f ((↑O : Int).toNat + 0) - 1)))) + 0)) with
                 | true => K (Res.ret (V.raw (Value.bool false)))
                 | false => Z { n := 186, t := [(0, V.sle 0 1 0 n cap), (12, V.lse 2 1 1 0 m), (15, V.raw (Value.int IntKind.u64 x)), (17, V.raw (Value.int IntKind.i64 0))], s := [Ent.arr AM.ro [Col.int IntKind.i64 g] n 0, Ent.no, Ent.arr (AM.grow 1) [Col.int IntKind.i64 f] m 3] })
                | false => (match decide (IntKind.u64.wrap (x + 8) > IntKind.u64.wrap (IntKind.u64.wrap (2097152 + IntKind.u64.wrap (8 * IntKind.u64.wrap (IntKind.i64.wrap (f ((↑O : Int).toNat + 0) - 1)))) + IntKind.u64.wrap (24 + IntKind.u64.wrap (8 * IntKind.u64.wrap (IntKind.i64.wrap (IntKind.i64.wrap (f ((IntKind.i64.wrap ((↑O : Int) + 1)).toNat + 0) - f ((↑O : Int).toNat + 0)) - 3)))))) with
                 | true => K (Res.ret (V.raw (Value.bool false)))
                 | false => Z { n := 186, t := [(0, V.sle 0 1 0 n cap), (12, V.lse 2 1 1 0 m), (15, V.raw (Value.int IntKind.u64 x)), (17, V.raw (Value.int IntKind.i64 0))], s := [Ent.arr AM.ro [Col.int IntKind.i64 g] n 0, Ent.no, Ent.arr (AM.grow 1) [Col.int IntKind.i64 f] m 3] }))
               | false => False)
              | false => False)
             | false => False)
            | false => False)
           | false => False)))
        | false => False)
       | false => False))))
   | false => False)
  | false => False))
| false => (match !(x == y) == false with
 | true => K (Res.ret (V.raw (Value.bool false)))
 | false => (match decide ((↑O : Int) < (↑m : Int)) with
  | true => (match ((↑O : Int).toNat + 0).blt m with
   | true => (match decide (f ((↑O : Int).toNat + 0) < 1) with
    | true => (match decide (x < 24) with
     | true => K (Res.ret (V.raw (Value.bool false)))
     | false => (match decide ((↑O : Int) < (↑m : Int)) with
      | true => (match ((↑O : Int).toNat + 0).blt m with
       | true => (match decide (f ((↑O : Int).toNat + 0) < 1) with
        | true => (match decide (0 ≤ IntKind.i64.wrap ((↑O : Int) + 1)) with
         | true => (match decide (IntKind.i64.wrap ((↑O : Int) + 1) < (↑m : Int)) with
          | true => (match ((IntKind.i64.wrap ((↑O : Int) + 1)).toNat + 0).blt m with
           | true => (match decide ((↑O : Int) < (↑m : Int)) with
            | true => (match ((↑O : Int).toNat + 0).blt m with
             | true => (match decide (IntKind.i64.wrap (IntKind.i64.wrap (f ((IntKind.i64.wrap ((↑O : Int) + 1)).toNat + 0) - f ((↑O : Int).toNat + 0)) - 3) < 0) with
              | true => (match decide (IntKind.u64.wrap (x + 8) > 0) with
               | true => K (Res.ret (V.raw (Value.bool false)))
               | false => Z { n := 186, t := [(0, V.sle 0 1 0 n cap), (12, V.lse 2 1 1 0 m), (15, V.raw (Value.int IntKind.u64 x)), (17, V.raw (Value.int IntKind.i64 0))], s := [Ent.arr AM.ro [Col.int IntKind.i64 g] n 0, Ent.no, Ent.arr (AM.grow 1) [Col.int IntKind.i64 f] m 3] })
              | false => (match decide (IntKind.u64.wrap (x + 8) > IntKind.u64.wrap (0 + IntKind.u64.wrap (24 + IntKind.u64.wrap (8 * IntKind.u64.wrap (IntKind.i64.wrap (IntKind.i64.wrap (f ((IntKind.i64.wrap ((↑O : Int) + 1)).toNat + 0) - f ((↑O : Int).toNat + 0)) - 3)))))) with
               | true => K (Res.ret (V.raw (Value.bool false)))
               | false => Z { n := 186, t := [(0, V.sle 0 1 0 n cap), (12, V.lse 2 1 1 0 m), (15, V.raw (Value.int IntKind.u64 x)), (17, V.raw (Value.int IntKind.i64 0))], s := [Ent.arr AM.ro [Col.int IntKind.i64 g] n 0, Ent.no, Ent.arr (AM.grow 1) [Col.int IntKind.i64 f] m 3] }))
             | false => False)
            | false => False)
           | false => False)
          | false => False)
         | false => False)
        | false => (match decide (f ((↑O : Int).toNat + 0) > 65536) with
         | true => (match decide (0 ≤ IntKind.i64.wrap ((↑O : Int) + 1)) with
          | true => (match decide (IntKind.i64.wrap ((↑O : Int) + 1) < (↑m : Int)) with
           | true => (match ((IntKind.i64.wrap ((↑O : Int) + 1)).toNat + 0).blt m with
            | true => (match decide ((↑O : Int) < (↑m : Int)) with
             | true => (match ((↑O : Int).toNat + 0).blt m with
              | true => (match decide (IntKind.i64.wrap (IntKind.i64.wrap (f ((IntKind.i64.wrap ((↑O : Int) + 1)).toNat + 0) - f ((↑O : Int).toNat + 0)) - 3) < 0) with
               | true => (match decide (IntKind.u64.wrap (x + 8) > 0) with
                | true => K (Res.ret (V.raw (Value.bool false)))
                | false => Z { n := 186, t := [(0, V.sle 0 1 0 n cap), (12, V.lse 2 1 1 0 m), (15, V.raw (Value.int IntKind.u64 x)), (17, V.raw (Value.int IntKind.i64 0))], s := [Ent.arr AM.ro [Col.int IntKind.i64 g] n 0, Ent.no, Ent.arr (AM.grow 1) [Col.int IntKind.i64 f] m 3] })
               | false => (match decide (IntKind.u64.wrap (x + 8) > IntKind.u64.wrap (0 + IntKind.u64.wrap (24 + IntKind.u64.wrap (8 * IntKind.u64.wrap (IntKind.i64.wrap (IntKind.i64.wrap (f ((IntKind.i64.wrap ((↑O : Int) + 1)).toNat + 0) - f ((↑O : Int).toNat + 0)) - 3)))))) with
                | true => K (Res.ret (V.raw (Value.bool false)))
                | false => Z { n := 186, t := [(0, V.sle 0 1 0 n cap), (12, V.lse 2 1 1 0 m), (15, V.raw (Value.int IntKind.u64 x)), (17, V.raw (Value.int IntKind.i64 0))], s := [Ent.arr AM.ro [Col.int IntKind.i64 g] n 0, Ent.no, Ent.arr (AM.grow 1) [Col.int IntKind.i64 f] m 3] }))
              | false => False)
             | false => False)
            | false => False)
           | false => False)
          | false => False)
         | false => (match decide (0 ≤ IntKind.i64.wrap ((↑O : Int) + 1)) with
          | true => (match decide (IntKind.i64.wrap ((↑O : Int) + 1) < (↑m : Int)) with
           | true => (match ((IntKind.i64.wrap ((↑O : Int) + 1)).toNat + 0).blt m with
            | true => (match decide ((↑O : Int) < (↑m : Int)) with
             | true => (match ((↑O : Int).toNat + 0).blt m with
              | true => (match decide (IntKind.i64.wrap (IntKind.i64.wrap (f ((IntKind.i64.wrap ((↑O : Int) + 1)).toNat + 0) - f ((↑O : Int).toNat + 0)) - 3) < 0) with
               | true => (match decide (IntKind.u64.wrap (x + 8) > IntKind.u64.wrap (IntKind.u64.wrap (2097152 + IntKind.u64.wrap (8 * IntKind.u64.wrap (IntKind.i64.wrap (f ((↑O : Int).toNat + 0) - 1)))) + 0)) with
                | true => K (Res.ret (V.raw (Value.bool false)))
                | false => Z { n := 186, t := [(0, V.sle 0 1 0 n cap), (12, V.lse 2 1 1 0 m), (15, V.raw (Value.int IntKind.u64 x)), (17, V.raw (Value.int IntKind.i64 0))], s := [Ent.arr AM.ro [Col.int IntKind.i64 g] n 0, Ent.no, Ent.arr (AM.grow 1) [Col.int IntKind.i64 f] m 3] })
               | false => (match decide (IntKind.u64.wrap (x + 8) > IntKind.u64.wrap (IntKind.u64.wrap (2097152 + IntKind.u64.wrap (8 * IntKind.u64.wrap (IntKind.i64.wrap (f ((↑O : Int).toNat + 0) - 1)))) + IntKind.u64.wrap (24 + IntKind.u64.wrap (8 * IntKind.u64.wrap (IntKind.i64.wrap (IntKind.i64.wrap (f ((IntKind.i64.wrap ((↑O : Int) + 1)).toNat + 0) - f ((↑O : Int).toNat + 0)) - 3)))))) with
                | true => K (Res.ret (V.raw (Value.bool false)))
                | false => Z { n := 186, t := [(0, V.sle 0 1 0 n cap), (12, V.lse 2 1 1 0 m), (15, V.raw (Value.int IntKind.u64 x)), (17, V.raw (Value.int IntKind.i64 0))], s := [Ent.arr AM.ro [Col.int IntKind.i64 g] n 0, Ent.no, Ent.arr (AM.grow 1) [Col.int IntKind.i64 f] m 3] }))
              | false => False)
             | false => False)
            | false => False)
           | false => False)
          | false => False)))
       | false => False)
      | false => False))
    | false => (match decide (f ((↑O : Int).toNat + 0) > 65536) with
     | true => (match decide (x < 24) with
      | true => K (Res.ret (V.raw (Value.bool false)))
      | false => (match decide ((↑O : Int) < (↑m : Int)) with
       | true => (match ((↑O : Int).toNat + 0).blt m with
        | true => (match decide (f ((↑O : Int).toNat + 0) < 1) with
         | true => (match decide (0 ≤ IntKind.i64.wrap ((↑O : Int) + 1)) with
          | true => (match decide (IntKind.i64.wrap ((↑O : Int) + 1) < (↑m : Int)) with
           | true => (match ((IntKind.i64.wrap ((↑O : Int) + 1)).toNat + 0).blt m with
            | true => (match decide ((↑O : Int) < (↑m : Int)) with
             | true => (match ((↑O : Int).toNat + 0).blt m with
              | true => (match decide (IntKind.i64.wrap (IntKind.i64.wrap (f ((IntKind.i64.wrap ((↑O : Int) + 1)).toNat + 0) - f ((↑O : Int).toNat + 0)) - 3) < 0) with
               | true => (match decide (IntKind.u64.wrap (x + 8) > 0) with
                | true => K (Res.ret (V.raw (Value.bool false)))
                | false => Z { n := 186, t := [(0, V.sle 0 1 0 n cap), (12, V.lse 2 1 1 0 m), (15, V.raw (Value.int IntKind.u64 x)), (17, V.raw (Value.int IntKind.i64 0))], s := [Ent.arr AM.ro [Col.int IntKind.i64 g] n 0, Ent.no, Ent.arr (AM.grow 1) [Col.int IntKind.i64 f] m 3] })
               | false => (match decide (IntKind.u64.wrap (x + 8) > IntKind.u64.wrap (0 + IntKind.u64.wrap (24 + IntKind.u64.wrap (8 * IntKind.u64.wrap (IntKind.i64.wrap (IntKind.i64.wrap (f ((IntKind.i64.wrap ((↑O : Int) + 1)).toNat + 0) - f ((↑O : Int).toNat + 0)) - 3)))))) with
                | true => K (Res.ret (V.raw (Value.bool false)))
                | false => Z { n := 186, t := [(0, V.sle 0 1 0 n cap), (12, V.lse 2 1 1 0 m), (15, V.raw (Value.int IntKind.u64 x)), (17, V.raw (Value.int IntKind.i64 0))], s := [Ent.arr AM.ro [Col.int IntKind.i64 g] n 0, Ent.no, Ent.arr (AM.grow 1) [Col.int IntKind.i64 f] m 3] }))
              | false => False)
             | false => False)
            | false => False)
           | false => False)
          | false => False)
         | false => (match decide (f ((↑O : Int).toNat + 0) > 65536) with
          | true => (match decide (0 ≤ IntKind.i64.wrap ((↑O : Int) + 1)) with
           | true => (match decide (IntKind.i64.wrap ((↑O : Int) + 1) < (↑m : Int)) with
            | true => (match ((IntKind.i64.wrap ((↑O : Int) + 1)).toNat + 0).blt m with
             | true => (match decide ((↑O : Int) < (↑m : Int)) with
              | true => (match ((↑O : Int).toNat + 0).blt m with
               | true => (match decide (IntKind.i64.wrap (IntKind.i64.wrap (f ((IntKind.i64.wrap ((↑O : Int) + 1)).toNat + 0) - f ((↑O : Int).toNat + 0)) - 3) < 0) with
                | true => (match decide (IntKind.u64.wrap (x + 8) > 0) with
                 | true => K (Res.ret (V.raw (Value.bool false)))
                 | false => Z { n := 186, t := [(0, V.sle 0 1 0 n cap), (12, V.lse 2 1 1 0 m), (15, V.raw (Value.int IntKind.u64 x)), (17, V.raw (Value.int IntKind.i64 0))], s := [Ent.arr AM.ro [Col.int IntKind.i64 g] n 0, Ent.no, Ent.arr (AM.grow 1) [Col.int IntKind.i64 f] m 3] })
                | false => (match decide (IntKind.u64.wrap (x + 8) > IntKind.u64.wrap (0 + IntKind.u64.wrap (24 + IntKind.u64.wrap (8 * IntKind.u64.wrap (IntKind.i64.wrap (IntKind.i64.wrap (f ((IntKind.i64.wrap ((↑O : Int) + 1)).toNat + 0) - f ((↑O : Int).toNat + 0)) - 3)))))) with
                 | true => K (Res.ret (V.raw (Value.bool false)))
                 | false => Z { n := 186, t := [(0, V.sle 0 1 0 n cap), (12, V.lse 2 1 1 0 m), (15, V.raw (Value.int IntKind.u64 x)), (17, V.raw (Value.int IntKind.i64 0))], s := [Ent.arr AM.ro [Col.int IntKind.i64 g] n 0, Ent.no, Ent.arr (AM.grow 1) [Col.int IntKind.i64 f] m 3] }))
               | false => False)
              | false => False)
             | false => False)
            | false => False)
           | false => False)
          | false => (match decide (0 ≤ IntKind.i64.wrap ((↑O : Int) + 1)) with
           | true => (match decide (IntKind.i64.wrap ((↑O : Int) + 1) < (↑m : Int)) with
            | true => (match ((IntKind.i64.wrap ((↑O : Int) + 1)).toNat + 0).blt m with
             | true => (match decide ((↑O : Int) < (↑m : Int)) with
              | true => (match ((↑O : Int).toNat + 0).blt m with
               | true => (match decide (IntKind.i64.wrap (IntKind.i64.wrap (f ((IntKind.i64.wrap ((↑O : Int) + 1)).toNat + 0) - f ((↑O : Int).toNat + 0)) - 3) < 0) with
                | true => (match decide (IntKind.u64.wrap (x + 8) > IntKind.u64.wrap (IntKind.u64.wrap (2097152 + IntKind.u64.wrap (8 * IntKind.u64.wrap (IntKind.i64.wrap (f ((↑O : Int).toNat + 0) - 1)))) + 0)) with
                 | true => K (Res.ret (V.raw (Value.bool false)))
                 | false => Z { n := 186, t := [(0, V.sle 0 1 0 n cap), (12, V.lse 2 1 1 0 m), (15, V.raw (Value.int IntKind.u64 x)), (17, V.raw (Value.int IntKind.i64 0))], s := [Ent.arr AM.ro [Col.int IntKind.i64 g] n 0, Ent.no, Ent.arr (AM.grow 1) [Col.int IntKind.i64 f] m 3] })
                | false => (match decide (IntKind.u64.wrap (x + 8) > IntKind.u64.wrap (IntKind.u64.wrap (2097152 + IntKind.u64.wrap (8 * IntKind.u64.wrap (IntKind.i64.wrap (f ((↑O : Int).toNat + 0) - 1)))) + IntKind.u64.wrap (24 + IntKind.u64.wrap (8 * IntKind.u64.wrap (IntKind.i64.wrap (IntKind.i64.wrap (f ((IntKind.i64.wrap ((↑O : Int) + 1)).toNat + 0) - f ((↑O : Int).toNat + 0)) - 3)))))) with
                 | true => K (Res.ret (V.raw (Value.bool false)))
                 | false => Z { n := 186, t := [(0, V.sle 0 1 0 n cap), (12, V.lse 2 1 1 0 m), (15, V.raw (Value.int IntKind.u64 x)), (17, V.raw (Value.int IntKind.i64 0))], s := [Ent.arr AM.ro [Col.int IntKind.i64 g] n 0, Ent.no, Ent.arr (AM.grow 1) [Col.int IntKind.i64 f] m 3] }))
               | false => False)
              | false => False)
             | false => False)
            | false => False)
           | false => False)))
        | false => False)
       | false => False))
     | false => (match decide (x < IntKind.u64.wrap (IntKind.u64.wrap (2097152 + IntKind.u64.wrap (8 * IntKind.u64.wrap (IntKind.i64.wrap (f ((↑O : Int).toNat + 0) - 1)))) + 24)) with
      | true => K (Res.ret (V.raw (Value.bool false)))
      | false => (match decide ((↑O : Int) < (↑m : Int)) with
       | true => (match ((↑O : Int).toNat + 0).blt m with
        | true => (match decide (f ((↑O : Int).toNat + 0) < 1) with
         | true => (match decide (0 ≤ IntKind.i64.wrap ((↑O : Int) + 1)) with
          | true => (match decide (IntKind.i64.wrap ((↑O : Int) + 1) < (↑m : Int)) with
           | true => (match ((IntKind.i64.wrap ((↑O : Int) + 1)).toNat + 0).blt m with
            | true => (match decide ((↑O : Int) < (↑m : Int)) with
             | true => (match ((↑O : Int).toNat + 0).blt m with
              | true => (match decide (IntKind.i64.wrap (IntKind.i64.wrap (f ((IntKind.i64.wrap ((↑O : Int) + 1)).toNat + 0) - f ((↑O : Int).toNat + 0)) - 3) < 0) with
               | true => (match decide (IntKind.u64.wrap (x + 8) > 0) with
                | true => K (Res.ret (V.raw (Value.bool false)))
                | false => Z { n := 186, t := [(0, V.sle 0 1 0 n cap), (12, V.lse 2 1 1 0 m), (15, V.raw (Value.int IntKind.u64 x)), (17, V.raw (Value.int IntKind.i64 0))], s := [Ent.arr AM.ro [Col.int IntKind.i64 g] n 0, Ent.no, Ent.arr (AM.grow 1) [Col.int IntKind.i64 f] m 3] })
               | false => (match decide (IntKind.u64.wrap (x + 8) > IntKind.u64.wrap (0 + IntKind.u64.wrap (24 + IntKind.u64.wrap (8 * IntKind.u64.wrap (IntKind.i64.wrap (IntKind.i64.wrap (f ((IntKind.i64.wrap ((↑O : Int) + 1)).toNat + 0) - f ((↑O : Int).toNat + 0)) - 3)))))) with
                | true => K (Res.ret (V.raw (Value.bool false)))
                | false => Z { n := 186, t := [(0, V.sle 0 1 0 n cap), (12, V.lse 2 1 1 0 m), (15, V.raw (Value.int IntKind.u64 x)), (17, V.raw (Value.int IntKind.i64 0))], s := [Ent.arr AM.ro [Col.int IntKind.i64 g] n 0, Ent.no, Ent.arr (AM.grow 1) [Col.int IntKind.i64 f] m 3] }))
              | false => False)
             | false => False)
            | false => False)
           | false => False)
          | false => False)
         | false => (match decide (f ((↑O : Int).toNat + 0) > 65536) with
          | true => (match decide (0 ≤ IntKind.i64.wrap ((↑O : Int) + 1)) with
           | true => (match decide (IntKind.i64.wrap ((↑O : Int) + 1) < (↑m : Int)) with
            | true => (match ((IntKind.i64.wrap ((↑O : Int) + 1)).toNat + 0).blt m with
             | true => (match decide ((↑O : Int) < (↑m : Int)) with
              | true => (match ((↑O : Int).toNat + 0).blt m with
               | true => (match decide (IntKind.i64.wrap (IntKind.i64.wrap (f ((IntKind.i64.wrap ((↑O : Int) + 1)).toNat + 0) - f ((↑O : Int).toNat + 0)) - 3) < 0) with
                | true => (match decide (IntKind.u64.wrap (x + 8) > 0) with
                 | true => K (Res.ret (V.raw (Value.bool false)))
                 | false => Z { n := 186, t := [(0, V.sle 0 1 0 n cap), (12, V.lse 2 1 1 0 m), (15, V.raw (Value.int IntKind.u64 x)), (17, V.raw (Value.int IntKind.i64 0))], s := [Ent.arr AM.ro [Col.int IntKind.i64 g] n 0, Ent.no, Ent.arr (AM.grow 1) [Col.int IntKind.i64 f] m 3] })
                | false => (match decide (IntKind.u64.wrap (x + 8) > IntKind.u64.wrap (0 + IntKind.u64.wrap (24 + IntKind.u64.wrap (8 * IntKind.u64.wrap (IntKind.i64.wrap (IntKind.i64.wrap (f ((IntKind.i64.wrap ((↑O : Int) + 1)).toNat + 0) - f ((↑O : Int).toNat + 0)) - 3)))))) with
                 | true => K (Res.ret (V.raw (Value.bool false)))
                 | false => Z { n := 186, t := [(0, V.sle 0 1 0 n cap), (12, V.lse 2 1 1 0 m), (15, V.raw (Value.int IntKind.u64 x)), (17, V.raw (Value.int IntKind.i64 0))], s := [Ent.arr AM.ro [Col.int IntKind.i64 g] n 0, Ent.no, Ent.arr (AM.grow 1) [Col.int IntKind.i64 f] m 3] }))
               | false => False)
              | false => False)
             | false => False)
            | false => False)
           | false => False)
          | false => (match decide (0 ≤ IntKind.i64.wrap ((↑O : Int) + 1)) with
           | true => (match decide (IntKind.i64.wrap ((↑O : Int) + 1) < (↑m : Int)) with
            | true => (match ((IntKind.i64.wrap ((↑O : Int) + 1)).toNat + 0).blt m with
             | true => (match decide ((↑O : Int) < (↑m : Int)) with
              | true => (match ((↑O : Int).toNat + 0).blt m with
               | true => (match decide (IntKind.i64.wrap (IntKind.i64.wrap (f ((IntKind.i64.wrap ((↑O : Int) + 1)).toNat + 0) - f ((↑O : Int).toNat + 0)) - 3) < 0) with
                | true => (match decide (IntKind.u64.wrap (x + 8) > IntKind.u64.wrap (IntKind.u64.wrap (2097152 + IntKind.u64.wrap (8 * IntKind.u64.wrap (IntKind.i64.wrap (f ((↑O : Int).toNat + 0) - 1)))) + 0)) with
                 | true => K (Res.ret (V.raw (Value.bool false)))
                 | false => Z { n := 186, t := [(0, V.sle 0 1 0 n cap), (12, V.lse 2 1 1 0 m), (15, V.raw (Value.int IntKind.u64 x)), (17, V.raw (Value.int IntKind.i64 0))], s := [Ent.arr AM.ro [Col.int IntKind.i64 g] n 0, Ent.no, Ent.arr (AM.grow 1) [Col.int IntKind.i64 f] m 3] })
                | false => (match decide (IntKind.u64.wrap (x + 8) > IntKind.u64.wrap (IntKind.u64.wrap (2097152 + IntKind.u64.wrap (8 * IntKind.u64.wrap (IntKind.i64.wrap (f ((↑O : Int).toNat + 0) - 1)))) + IntKind.u64.wrap (24 + IntKind.u64.wrap (8 * IntKind.u64.wrap (IntKind.i64.wrap (IntKind.i64.wrap (f ((IntKind.i64.wrap ((↑O : Int) + 1)).toNat + 0) - f ((↑O : Int).toNat + 0)) - 3)))))) with
                 | true => K (Res.ret (V.raw (Value.bool false)))
                 | false => Z { n := 186, t := [(0, V.sle 0 1 0 n cap), (12, V.lse 2 1 1 0 m), (15, V.raw (Value.int IntKind.u64 x)), (17, V.raw (Value.int IntKind.i64 0))], s := [Ent.arr AM.ro [Col.int IntKind.i64 g] n 0, Ent.no, Ent.arr (AM.grow 1) [Col.int IntKind.i64 f] m 3] }))
               | false => False)
              | false => False)
             | false => False)
            | false => False)
           | false => False)))
        | false => False)
       | false => False))))
   | false => False)
  | false => False)))
set_option maxRecDepth 1000000 in
theorem midE_eq (g : Nat → Int) (n cap : Nat) (O P : Nat) (a b x y : Int) (m : Nat) (f : Nat → Int) (K : Res → Prop) (Z : St → Prop) : evTo Try.prog noD 60 1 (fun st => Z (gcSt 1 live3 st)) (pathTo 29 c26) c26 (SF g n cap O a P b x y m f) (bodyK False Try.prog (funcOf Try.prog 3) (fun r _ => K r)) = midE_f g  n cap  O P  a b x y  m  f  K  Z := by kernel_rfl
def body3_f (g : Nat → Int) (n cap : Nat) (q : Int) (m : Nat) (k : Nat) (f : Nat → Int) (K : Ex → St → Prop) : Prop :=
(match decide ((↑k : Int) < (↑n : Int)) with
| true => (match decide ((↑k : Int) < (↑m : Int)) with
 | true => (match ((↑k : Int).toNat + 0).blt m with
  | true => (match decide (f ((↑k : Int).toNat + 0) < 1) with
   | true => (match 0 == q with
    | true => K Ex.ret { n := 186, t := [(0, V.sle 0 1 0 n cap), (12, V.lse 2 1 1 0 m), (15, V.raw (Value.int IntKind.u64 q)), (17, V.raw (Value.int IntKind.i64 (↑k : Int)))], s := [Ent.arr AM.ro [Col.int IntKind.i64 g] n 0, Ent.no, Ent.arr (AM.grow 1) [Col.int IntKind.i64 f] m 3] }
    | false => K Ex.normal { n := 186, t := [(0, V.sle 0 1 0 n cap), (12, V.lse 2 1 1 0 m), (15, V.raw (Value.int IntKind.u64 q)), (17, V.raw (Value.int IntKind.i64 (IntKind.i64.wrap ((↑k : Int) + 1))))], s := [Ent.arr AM.ro [Col.int IntKind.i64 g] n 0, Ent.no, Ent.arr (AM.grow 1) [Col.int IntKind.i64 f] m 3] })
   | false => (match decide (f ((↑k : Int).toNat + 0) > 65536) with
    | true => (match 0 == q with
     | true => K Ex.ret { n := 186, t := [(0, V.sle 0 1 0 n cap), (12, V.lse 2 1 1 0 m), (15, V.raw (Value.int IntKind.u64 q)), (17, V.raw (Value.int IntKind.i64 (↑k : Int)))], s := [Ent.arr AM.ro [Col.int IntKind.i64 g] n 0, Ent.no, Ent.arr (AM.grow 1) [Col.int IntKind.i64 f] m 3] }
     | false => K Ex.normal { n := 186, t := [(0, V.sle 0 1 0 n cap), (12, V.lse 2 1 1 0 m), (15, V.raw (Value.int IntKind.u64 q)), (17, V.raw (Value.int IntKind.i64 (IntKind.i64.wrap ((↑k : Int) + 1))))], s := [Ent.arr AM.ro [Col.int IntKind.i64 g] n 0, Ent.no, Ent.arr (AM.grow 1) [Col.int IntKind.i64 f] m 3] })
    | false => (match IntKind.u64.wrap (2097152 + IntKind.u64.wrap (8 * IntKind.u64.wrap (IntKind.i64.wrap (f ((↑k : Int).toNat + 0) - 1)))) == q with
     | true => K Ex.ret { n := 186, t := [(0, V.sle 0 1 0 n cap), (12, V.lse 2 1 1 0 m), (15, V.raw (Value.int IntKind.u64 q)), (17, V.raw (Value.int IntKind.i64 (↑k : Int)))], s := [Ent.arr AM.ro [Col.int IntKind.i64 g] n 0, Ent.no, Ent.arr (AM.grow 1) [Col.int IntKind.i64 f] m 3] }
     | false => K Ex.normal { n := 186, t := [(0, V.sle 0 1 0 n cap), (12, V.lse 2 1 1 0 m), (15, V.raw (Value.int IntKind.u64 q)), (17, V.raw (Value.int IntKind.i64 (IntKind.i64.wrap ((↑k : Int) + 1))))], s := [Ent.arr AM.ro [Col.int IntKind.i64 g] n 0, Ent.no, Ent.arr (AM.grow 1) [Col.int IntKind.i64 f] m 3] })))
  | false => False)
 | false => False)
| false => K (Ex.exit 2) { n := 186, t := [(0, V.sle 0 1 0 n cap), (12, V.lse 2 1 1 0 m), (15, V.raw (Value.int IntKind.u64 q)), (17, V.raw (Value.int IntKind.i64 (↑k : Int)))], s := [Ent.arr AM.ro [Col.int IntKind.i64 g] n 0, Ent.no, Ent.arr (AM.grow 1) [Col.int IntKind.i64 f] m 3] })
set_option maxRecDepth 1000000 in
theorem body3_eq (g : Nat → Int) (n cap : Nat) (q : Int) (m : Nat) (k : Nat) (f : Nat → Int) (K : Ex → St → Prop) : evG Try.prog noD 60 (lft (subAt p3 c26)) (SC g n cap q m k f) (fun e st => K e (gcSt 1 live3 st)) = body3_f g  n cap  q  m  k  f  K := by kernel_rfl
def post_f (g : Nat → Int) (n cap : Nat) (q : Int) (m : Nat) (k : Nat) (f : Nat → Int) (K : Res → Prop) : Prop :=
K (Res.ret (V.raw (Value.bool true)))
set_option maxRecDepth 1000000 in
theorem post_eq (g : Nat → Int) (n cap : Nat) (q : Int) (m : Nat) (k : Nat) (f : Nat → Int) (K : Res → Prop) : evG Try.prog noD 60 c3 (SC g n cap q m k f) (bodyK False Try.prog (funcOf Try.prog 3) (fun r _ => K r)) = post_f g  n cap  q  m  k  f  K := by kernel_rfl
end Go.Proofs.Ytlhpkcbeamphjaa.layoutSlots
