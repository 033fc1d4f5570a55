/- WinBarriers: what the law's function computes. -/
import Derived.Test.YtllfmafebhifdaazWinBarriersWKn
import Derived.Test.YtllfmafebhifdaazWinBarriersRLRow4
set_option linter.unusedVariables false
set_option linter.unusedSimpArgs false
set_option maxRecDepth 1000000
namespace Go.Proofs.Ytllfmafebhifdaa.winBarriers
open Go Go.Proofs Go.Proofs.YtllfmafebhifdaaRL Go.Proofs.Ytllfmafebhifdaa.isa Go.Proofs.Ytllfmafebhifdaa.win
noncomputable def EB : Eh := specE 6 knG (addE 7 mayA noE)
theorem EB_ok : EOk Try.prog EB := knG_ok (mayA_ok noE_ok)
noncomputable abbrev cd : Code := codeOf Try.prog 3
def live : List Nat := [1,7,8,10,11]
noncomputable def p1 : List Nat := pathTo 13 cd
noncomputable def c1 : Code := subAt (p1.dropLast.dropLast.dropLast ++ [0]) cd
/-- One row, an element, another row. -/
def cat {α : Type} (d : α) (n : Nat) (f : Nat → α) (b : α) (g : Nat → α) : Nat → α := fun j => match Nat.blt j (n + 1) with
  | true => (match Nat.blt j n with
    | true => f (j + 0)
    | false => [b].getD (j - n) d)
  | false => g (j - (n + 1) + 0)
def cat0 {α : Type} (d b : α) (g : Nat → α) : Nat → α := fun j => match Nat.blt j 1 with
  | true => [b].getD j d
  | false => g (j - 1 + 0)
def cat1 {α : Type} (d : α) (n : Nat) (f : Nat → α) (b : α) : Nat → α := fun j => match Nat.blt j (n + 1) with
  | true => (match Nat.blt j n with
    | true => f (j + 0)
    | false => [b].getD (j - n) d)
  | false => d
def cat2 {α : Type} (d b : α) : Nat → α := fun j => match Nat.blt j 1 with
  | true => [b].getD j d
  | false => d
def wCat (W X : WinC) (n : Nat) (o : Int) : WinC := ⟨cat 0 n W.pc 0 X.pc, cat 0 n W.op o X.op, cat 0 n W.d 0 X.d, cat 0 n W.n 0 X.n, cat 0 n W.m 0 X.m, cat 0 n W.a 0 X.a, cat 0 n W.c 0 X.c, cat 0 n W.im 0 X.im, cat 0 n W.next 0 X.next, cat false n W.done false X.done, fun i => cat 0 n (W.x i) 0 (X.x i), cat false n W.nf false X.nf, cat false n W.zf false X.zf, cat false n W.cf false X.cf, cat false n W.vf false X.vf⟩
def wCat0 (X : WinC) (o : Int) : WinC := ⟨cat0 0 0 X.pc, cat0 0 o X.op, cat0 0 0 X.d, cat0 0 0 X.n, cat0 0 0 X.m, cat0 0 0 X.a, cat0 0 0 X.c, cat0 0 0 X.im, cat0 0 0 X.next, cat0 false false X.done, fun i => cat0 0 0 (X.x i), cat0 false false X.nf, cat0 false false X.zf, cat0 false false X.cf, cat0 false false X.vf⟩
def wCat1 (W : WinC) (n : Nat) (o : Int) : WinC := ⟨cat1 0 n W.pc 0, cat1 0 n W.op o, cat1 0 n W.d 0, cat1 0 n W.n 0, cat1 0 n W.m 0, cat1 0 n W.a 0, cat1 0 n W.c 0, cat1 0 n W.im 0, cat1 0 n W.next 0, cat1 false n W.done false, fun i => cat1 0 n (W.x i) 0, cat1 false n W.nf false, cat1 false n W.zf false, cat1 false n W.cf false, cat1 false n W.vf false⟩
def wCat2 (o : Int) : WinC := ⟨cat2 0 0, cat2 0 o, cat2 0 0, cat2 0 0, cat2 0 0, cat2 0 0, cat2 0 0, cat2 0 0, cat2 0 0, cat2 false false, fun _ => cat2 0 0, cat2 false false, cat2 false false, cat2 false false, cat2 false false⟩
def SB (e0 e1 : Ent) (U : WinC) (L : Nat) (kd : Int) (r : RegsF) (i : Int) (a8 : Bool) : St := ⟨77, [(1, .raw (.int .i64 kd)), (7, .ptr 2 0), (8, bV a8), (10, .lse 4 3 46 0 L), (11, .raw (.int .i64 i))], [e0, e1, .own (numsV .u64 r.x 32 ++ [.raw (.bool r.nf), .raw (.bool r.zf), .raw (.bool r.cf), .raw (.bool r.vf)]) 26, .no, .arr (.grow 3) U.cols L 32]⟩
abbrev e0 (W : WinC) (n : Nat) : Ent := .arr .ro W.cols n 0
def kop (k : Nat) : Int := 37 + (k : Int)
section
variable (W X : WinC) (n m cap cap' : Nat) (r : RegsF)
abbrev st0 (v0 v2 : V) (k : Nat) (r : RegsF) (s : Sto) : St := ⟨77, zipArgs 0 [v0, .raw (.int .i64 (k : Nat)), v2, r.v], s⟩
abbrev KB (K : V → Prop) : Ex → St → Prop := bodyK False Try.prog (funcOf Try.prog 3) (rK K)
def preM (a b : Nat) (K : V → Prop) (P : Prop) : Prop := Br (decide (IntKind.i64.wrap ((a : Int) + (b : Int)) > 20)) (K (bV true)) P
def g3 (b : Bool) (P : Prop) : Prop := Br b P False
theorem pre_a0 (K : V → Prop) (Z : St → Prop) : evTo Try.prog EB 100 2 (fun st => Z (gcSt 2 live st)) p1 cd (st0 (.sle 0 46 0 n cap) (.sle 1 46 0 m cap') 0 r [e0 W n, e0 X m]) (KB K) =
    preM n m K (g3 (Nat.ble (0 + n) n) (Br (Nat.beq n 0) (g3 (Nat.ble (0 + m) m) (g3 (growOk (1 + m) 344) (Z (SB (e0 W n) (e0 X m) (wCat0 X (kop 0)) (1 + m) (0 : Nat) r (IntKind.i64.wrap ((n : Int) + 1)) false))))
      (g3 (growOk n 344) (g3 (Nat.ble n n) (g3 (growOk (n + 1) 344) (g3 (Nat.ble (0 + m) m) (g3 (Nat.ble (n + 1) (n + 1)) (g3 (growOk (n + 1 + m) 344) (Z (SB (e0 W n) (e0 X m) (wCat W X n (kop 0)) (n + 1 + m) (0 : Nat) r (IntKind.i64.wrap ((n : Int) + 1)) false)))))))))) := by kernel_rfl
theorem pre_b0 (p) (K : V → Prop) (Z : St → Prop) : evTo Try.prog EB 100 2 (fun st => Z (gcSt 2 live st)) p1 cd (st0 (.raw (.slice p 0 cap)) (.sle 1 46 0 m cap') 0 r [.no, e0 X m]) (KB K) =
    preM 0 m K (g3 (Nat.ble (0 + m) m) (g3 (growOk (1 + m) 344) (Z (SB .no (e0 X m) (wCat0 X (kop 0)) (1 + m) (0 : Nat) r 1 false)))) := by kernel_rfl
theorem pre_c0 (p) (K : V → Prop) (Z : St → Prop) : evTo Try.prog EB 100 2 (fun st => Z (gcSt 2 live st)) p1 cd (st0 (.sle 0 46 0 n cap) (.raw (.slice p 0 cap')) 0 r [e0 W n, .no]) (KB K) =
    preM n 0 K (g3 (Nat.ble (0 + n) n) (Br (Nat.beq n 0) (Z (SB (e0 W n) .no (wCat2 (kop 0)) 1 (0 : Nat) r (IntKind.i64.wrap ((n : Int) + 1)) false))
      (g3 (growOk n 344) (g3 (Nat.ble n n) (g3 (growOk (n + 1) 344) (g3 (Nat.ble (n + 1) (n + 1)) (g3 (growOk (n + 1) 344) (Z (SB (e0 W n) .no (wCat1 W n (kop 0)) (n + 1) (0 : Nat) r (IntKind.i64.wrap ((n : Int) + 1)) false))))))))) := by kernel_rfl
theorem pre_d0 (p) (p') (K : V → Prop) (Z : St → Prop) : evTo Try.prog EB 100 2 (fun st => Z (gcSt 2 live st)) p1 cd (st0 (.raw (.slice p 0 cap)) (.raw (.slice p' 0 cap')) 0 r [.no, .no]) (KB K) =
    (Z (SB .no .no (wCat2 (kop 0)) 1 (0 : Nat) r 1 false)) := by kernel_rfl
theorem pre_a1 (K : V → Prop) (Z : St → Prop) : evTo Try.prog EB 100 2 (fun st => Z (gcSt 2 live st)) p1 cd (st0 (.sle 0 46 0 n cap) (.sle 1 46 0 m cap') 1 r [e0 W n, e0 X m]) (KB K) =
    preM n m K (g3 (Nat.ble (0 + n) n) (Br (Nat.beq n 0) (g3 (Nat.ble (0 + m) m) (g3 (growOk (1 + m) 344) (Z (SB (e0 W n) (e0 X m) (wCat0 X (kop 1)) (1 + m) (1 : Nat) r (IntKind.i64.wrap ((n : Int) + 1)) false))))
      (g3 (growOk n 344) (g3 (Nat.ble n n) (g3 (growOk (n + 1) 344) (g3 (Nat.ble (0 + m) m) (g3 (Nat.ble (n + 1) (n + 1)) (g3 (growOk (n + 1 + m) 344) (Z (SB (e0 W n) (e0 X m) (wCat W X n (kop 1)) (n + 1 + m) (1 : Nat) r (IntKind.i64.wrap ((n : Int) + 1)) false)))))))))) := by kernel_rfl
theorem pre_b1 (p) (K : V → Prop) (Z : St → Prop) : evTo Try.prog EB 100 2 (fun st => Z (gcSt 2 live st)) p1 cd (st0 (.raw (.slice p 0 cap)) (.sle 1 46 0 m cap') 1 r [.no, e0 X m]) (KB K) =
    preM 0 m K (g3 (Nat.ble (0 + m) m) (g3 (growOk (1 + m) 344) (Z (SB .no (e0 X m) (wCat0 X (kop 1)) (1 + m) (1 : Nat) r 1 false)))) := by kernel_rfl
theorem pre_c1 (p) (K : V → Prop) (Z : St → Prop) : evTo Try.prog EB 100 2 (fun st => Z (gcSt 2 live st)) p1 cd (st0 (.sle 0 46 0 n cap) (.raw (.slice p 0 cap')) 1 r [e0 W n, .no]) (KB K) =
    preM n 0 K (g3 (Nat.ble (0 + n) n) (Br (Nat.beq n 0) (Z (SB (e0 W n) .no (wCat2 (kop 1)) 1 (1 : Nat) r (IntKind.i64.wrap ((n : Int) + 1)) false))
      (g3 (growOk n 344) (g3 (Nat.ble n n) (g3 (growOk (n + 1) 344) (g3 (Nat.ble (n + 1) (n + 1)) (g3 (growOk (n + 1) 344) (Z (SB (e0 W n) .no (wCat1 W n (kop 1)) (n + 1) (1 : Nat) r (IntKind.i64.wrap ((n : Int) + 1)) false))))))))) := by kernel_rfl
theorem pre_d1 (p) (p') (K : V → Prop) (Z : St → Prop) : evTo Try.prog EB 100 2 (fun st => Z (gcSt 2 live st)) p1 cd (st0 (.raw (.slice p 0 cap)) (.raw (.slice p' 0 cap')) 1 r [.no, .no]) (KB K) =
    (Z (SB .no .no (wCat2 (kop 1)) 1 (1 : Nat) r 1 false)) := by kernel_rfl
theorem pre_a2 (K : V → Prop) (Z : St → Prop) : evTo Try.prog EB 100 2 (fun st => Z (gcSt 2 live st)) p1 cd (st0 (.sle 0 46 0 n cap) (.sle 1 46 0 m cap') 2 r [e0 W n, e0 X m]) (KB K) =
    preM n m K (g3 (Nat.ble (0 + n) n) (Br (Nat.beq n 0) (g3 (Nat.ble (0 + m) m) (g3 (growOk (1 + m) 344) (Z (SB (e0 W n) (e0 X m) (wCat0 X (kop 2)) (1 + m) (2 : Nat) r (IntKind.i64.wrap ((n : Int) + 1)) false))))
      (g3 (growOk n 344) (g3 (Nat.ble n n) (g3 (growOk (n + 1) 344) (g3 (Nat.ble (0 + m) m) (g3 (Nat.ble (n + 1) (n + 1)) (g3 (growOk (n + 1 + m) 344) (Z (SB (e0 W n) (e0 X m) (wCat W X n (kop 2)) (n + 1 + m) (2 : Nat) r (IntKind.i64.wrap ((n : Int) + 1)) false)))))))))) := by kernel_rfl
theorem pre_b2 (p) (K : V → Prop) (Z : St → Prop) : evTo Try.prog EB 100 2 (fun st => Z (gcSt 2 live st)) p1 cd (st0 (.raw (.slice p 0 cap)) (.sle 1 46 0 m cap') 2 r [.no, e0 X m]) (KB K) =
    preM 0 m K (g3 (Nat.ble (0 + m) m) (g3 (growOk (1 + m) 344) (Z (SB .no (e0 X m) (wCat0 X (kop 2)) (1 + m) (2 : Nat) r 1 false)))) := by kernel_rfl
theorem pre_c2 (p) (K : V → Prop) (Z : St → Prop) : evTo Try.prog EB 100 2 (fun st => Z (gcSt 2 live st)) p1 cd (st0 (.sle 0 46 0 n cap) (.raw (.slice p 0 cap')) 2 r [e0 W n, .no]) (KB K) =
    preM n 0 K (g3 (Nat.ble (0 + n) n) (Br (Nat.beq n 0) (Z (SB (e0 W n) .no (wCat2 (kop 2)) 1 (2 : Nat) r (IntKind.i64.wrap ((n : Int) + 1)) false))
      (g3 (growOk n 344) (g3 (Nat.ble n n) (g3 (growOk (n + 1) 344) (g3 (Nat.ble (n + 1) (n + 1)) (g3 (growOk (n + 1) 344) (Z (SB (e0 W n) .no (wCat1 W n (kop 2)) (n + 1) (2 : Nat) r (IntKind.i64.wrap ((n : Int) + 1)) false))))))))) := by kernel_rfl
theorem pre_d2 (p) (p') (K : V → Prop) (Z : St → Prop) : evTo Try.prog EB 100 2 (fun st => Z (gcSt 2 live st)) p1 cd (st0 (.raw (.slice p 0 cap)) (.raw (.slice p' 0 cap')) 2 r [.no, .no]) (KB K) =
    (Z (SB .no .no (wCat2 (kop 2)) 1 (2 : Nat) r 1 false)) := by kernel_rfl
def bodyM (U : WinC) (L : Nat) (i : Int) (j : Nat) (kd2 : Bool) (NX EX RT : Prop) : Prop :=
  let ask := fitM L L (Br (Nat.ble L L) (Br (U.nm.may L i r.nm != 9) RT NX) False)
  Br (decide (i < (L : Int))) (ixM i L L (Br (decide (U.op j ≥ 28)) (Br (decide (U.op j ≤ 36)) ask (Br kd2 ask NX)) (Br kd2 ask NX))) EX
theorem body_00 (U : WinC) (L : Nat) (i : Int) (K : Ex → St → Prop) : evG Try.prog EB 100 (lft (subAt p1 cd)) (SB (e0 W n) (e0 X m) U L (0 : Nat) r i false) (fun e st => K e (gcSt 2 live st)) =
    bodyM r U L i (i.toNat + 0) false (K .normal (SB (e0 W n) (e0 X m) U L (0 : Nat) r (IntKind.i64.wrap (i + 1)) false)) (K (.exit 0) (SB (e0 W n) (e0 X m) U L (0 : Nat) r i false)) (K .ret (SB (e0 W n) (e0 X m) U L (0 : Nat) r i false)) := by kernel_rfl
theorem body_01 (U : WinC) (L : Nat) (i : Int) (K : Ex → St → Prop) : evG Try.prog EB 100 (lft (subAt p1 cd)) (SB .no (e0 X m) U L (0 : Nat) r i false) (fun e st => K e (gcSt 2 live st)) =
    bodyM r U L i (i.toNat + 0) false (K .normal (SB .no (e0 X m) U L (0 : Nat) r (IntKind.i64.wrap (i + 1)) false)) (K (.exit 0) (SB .no (e0 X m) U L (0 : Nat) r i false)) (K .ret (SB .no (e0 X m) U L (0 : Nat) r i false)) := by kernel_rfl
theorem body_02 (U : WinC) (L : Nat) (i : Int) (K : Ex → St → Prop) : evG Try.prog EB 100 (lft (subAt p1 cd)) (SB (e0 W n) .no U L (0 : Nat) r i false) (fun e st => K e (gcSt 2 live st)) =
    bodyM r U L i (i.toNat + 0) false (K .normal (SB (e0 W n) .no U L (0 : Nat) r (IntKind.i64.wrap (i + 1)) false)) (K (.exit 0) (SB (e0 W n) .no U L (0 : Nat) r i false)) (K .ret (SB (e0 W n) .no U L (0 : Nat) r i false)) := by kernel_rfl
theorem body_03 (U : WinC) (L : Nat) (i : Int) (K : Ex → St → Prop) : evG Try.prog EB 100 (lft (subAt p1 cd)) (SB .no .no U L (0 : Nat) r i false) (fun e st => K e (gcSt 2 live st)) =
    bodyM r U L i (i.toNat + 0) false (K .normal (SB .no .no U L (0 : Nat) r (IntKind.i64.wrap (i + 1)) false)) (K (.exit 0) (SB .no .no U L (0 : Nat) r i false)) (K .ret (SB .no .no U L (0 : Nat) r i false)) := by kernel_rfl
theorem body_10 (U : WinC) (L : Nat) (i : Int) (K : Ex → St → Prop) : evG Try.prog EB 100 (lft (subAt p1 cd)) (SB (e0 W n) (e0 X m) U L (1 : Nat) r i false) (fun e st => K e (gcSt 2 live st)) =
    bodyM r U L i (i.toNat + 0) false (K .normal (SB (e0 W n) (e0 X m) U L (1 : Nat) r (IntKind.i64.wrap (i + 1)) false)) (K (.exit 0) (SB (e0 W n) (e0 X m) U L (1 : Nat) r i false)) (K .ret (SB (e0 W n) (e0 X m) U L (1 : Nat) r i false)) := by kernel_rfl
theorem body_11 (U : WinC) (L : Nat) (i : Int) (K : Ex → St → Prop) : evG Try.prog EB 100 (lft (subAt p1 cd)) (SB .no (e0 X m) U L (1 : Nat) r i false) (fun e st => K e (gcSt 2 live st)) =
    bodyM r U L i (i.toNat + 0) false (K .normal (SB .no (e0 X m) U L (1 : Nat) r (IntKind.i64.wrap (i + 1)) false)) (K (.exit 0) (SB .no (e0 X m) U L (1 : Nat) r i false)) (K .ret (SB .no (e0 X m) U L (1 : Nat) r i false)) := by kernel_rfl
theorem body_12 (U : WinC) (L : Nat) (i : Int) (K : Ex → St → Prop) : evG Try.prog EB 100 (lft (subAt p1 cd)) (SB (e0 W n) .no U L (1 : Nat) r i false) (fun e st => K e (gcSt 2 live st)) =
    bodyM r U L i (i.toNat + 0) false (K .normal (SB (e0 W n) .no U L (1 : Nat) r (IntKind.i64.wrap (i + 1)) false)) (K (.exit 0) (SB (e0 W n) .no U L (1 : Nat) r i false)) (K .ret (SB (e0 W n) .no U L (1 : Nat) r i false)) := by kernel_rfl
theorem body_13 (U : WinC) (L : Nat) (i : Int) (K : Ex → St → Prop) : evG Try.prog EB 100 (lft (subAt p1 cd)) (SB .no .no U L (1 : Nat) r i false) (fun e st => K e (gcSt 2 live st)) =
    bodyM r U L i (i.toNat + 0) false (K .normal (SB .no .no U L (1 : Nat) r (IntKind.i64.wrap (i + 1)) false)) (K (.exit 0) (SB .no .no U L (1 : Nat) r i false)) (K .ret (SB .no .no U L (1 : Nat) r i false)) := by kernel_rfl
theorem body_20 (U : WinC) (L : Nat) (i : Int) (K : Ex → St → Prop) : evG Try.prog EB 100 (lft (subAt p1 cd)) (SB (e0 W n) (e0 X m) U L (2 : Nat) r i false) (fun e st => K e (gcSt 2 live st)) =
    bodyM r U L i (i.toNat + 0) true (K .normal (SB (e0 W n) (e0 X m) U L (2 : Nat) r (IntKind.i64.wrap (i + 1)) false)) (K (.exit 0) (SB (e0 W n) (e0 X m) U L (2 : Nat) r i false)) (K .ret (SB (e0 W n) (e0 X m) U L (2 : Nat) r i false)) := by kernel_rfl
theorem body_21 (U : WinC) (L : Nat) (i : Int) (K : Ex → St → Prop) : evG Try.prog EB 100 (lft (subAt p1 cd)) (SB .no (e0 X m) U L (2 : Nat) r i false) (fun e st => K e (gcSt 2 live st)) =
    bodyM r U L i (i.toNat + 0) true (K .normal (SB .no (e0 X m) U L (2 : Nat) r (IntKind.i64.wrap (i + 1)) false)) (K (.exit 0) (SB .no (e0 X m) U L (2 : Nat) r i false)) (K .ret (SB .no (e0 X m) U L (2 : Nat) r i false)) := by kernel_rfl
theorem body_22 (U : WinC) (L : Nat) (i : Int) (K : Ex → St → Prop) : evG Try.prog EB 100 (lft (subAt p1 cd)) (SB (e0 W n) .no U L (2 : Nat) r i false) (fun e st => K e (gcSt 2 live st)) =
    bodyM r U L i (i.toNat + 0) true (K .normal (SB (e0 W n) .no U L (2 : Nat) r (IntKind.i64.wrap (i + 1)) false)) (K (.exit 0) (SB (e0 W n) .no U L (2 : Nat) r i false)) (K .ret (SB (e0 W n) .no U L (2 : Nat) r i false)) := by kernel_rfl
theorem body_23 (U : WinC) (L : Nat) (i : Int) (K : Ex → St → Prop) : evG Try.prog EB 100 (lft (subAt p1 cd)) (SB .no .no U L (2 : Nat) r i false) (fun e st => K e (gcSt 2 live st)) =
    bodyM r U L i (i.toNat + 0) true (K .normal (SB .no .no U L (2 : Nat) r (IntKind.i64.wrap (i + 1)) false)) (K (.exit 0) (SB .no .no U L (2 : Nat) r i false)) (K .ret (SB .no .no U L (2 : Nat) r i false)) := by kernel_rfl
theorem aft (K : Ex → St → Prop) (st : St) : ctxK Try.prog 2 p1 cd K (.exit 0) st = CodeB Try.prog 2 c1 st K := by kernel_rfl
theorem post_00 (U : WinC) (L : Nat) (i : Int) (K : V → Prop) : evG Try.prog EB 100 c1 (SB (e0 W n) (e0 X m) U L (0 : Nat) r i false) (KB K) = K (bV true) := by kernel_rfl
theorem post_01 (U : WinC) (L : Nat) (i : Int) (K : V → Prop) : evG Try.prog EB 100 c1 (SB .no (e0 X m) U L (0 : Nat) r i false) (KB K) = K (bV true) := by kernel_rfl
theorem post_02 (U : WinC) (L : Nat) (i : Int) (K : V → Prop) : evG Try.prog EB 100 c1 (SB (e0 W n) .no U L (0 : Nat) r i false) (KB K) = K (bV true) := by kernel_rfl
theorem post_03 (U : WinC) (L : Nat) (i : Int) (K : V → Prop) : evG Try.prog EB 100 c1 (SB .no .no U L (0 : Nat) r i false) (KB K) = K (bV true) := by kernel_rfl
theorem post_10 (U : WinC) (L : Nat) (i : Int) (K : V → Prop) : evG Try.prog EB 100 c1 (SB (e0 W n) (e0 X m) U L (1 : Nat) r i false) (KB K) = K (bV true) := by kernel_rfl
theorem post_11 (U : WinC) (L : Nat) (i : Int) (K : V → Prop) : evG Try.prog EB 100 c1 (SB .no (e0 X m) U L (1 : Nat) r i false) (KB K) = K (bV true) := by kernel_rfl
theorem post_12 (U : WinC) (L : Nat) (i : Int) (K : V → Prop) : evG Try.prog EB 100 c1 (SB (e0 W n) .no U L (1 : Nat) r i false) (KB K) = K (bV true) := by kernel_rfl
theorem post_13 (U : WinC) (L : Nat) (i : Int) (K : V → Prop) : evG Try.prog EB 100 c1 (SB .no .no U L (1 : Nat) r i false) (KB K) = K (bV true) := by kernel_rfl
theorem post_20 (U : WinC) (L : Nat) (i : Int) (K : V → Prop) : evG Try.prog EB 100 c1 (SB (e0 W n) (e0 X m) U L (2 : Nat) r i false) (KB K) = K (bV true) := by kernel_rfl
theorem post_21 (U : WinC) (L : Nat) (i : Int) (K : V → Prop) : evG Try.prog EB 100 c1 (SB .no (e0 X m) U L (2 : Nat) r i false) (KB K) = K (bV true) := by kernel_rfl
theorem post_22 (U : WinC) (L : Nat) (i : Int) (K : V → Prop) : evG Try.prog EB 100 c1 (SB (e0 W n) .no U L (2 : Nat) r i false) (KB K) = K (bV true) := by kernel_rfl
theorem post_23 (U : WinC) (L : Nat) (i : Int) (K : V → Prop) : evG Try.prog EB 100 c1 (SB .no .no U L (2 : Nat) r i false) (KB K) = K (bV true) := by kernel_rfl
end
end Go.Proofs.Ytllfmafebhifdaa.winBarriers
