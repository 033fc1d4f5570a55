/- Parts of the proof, one behind the other. -/
import Derived.Test.YtjoopjhimgdgdaazDecRowsBJoin
import Derived.Test.YtjoopjhimgdgdaazDecRowsIRefW
import Derived.Test.YtjoopjhimgdgdaazDecRowsIRefC
section
/- brazierref4.Ins as a table's line. Printed by gendec.py. -/
namespace Go.Proofs.Ytjoopjhimgdgdaa.isa
open Go Go.Proofs Go.Proofs.YtjoopjhimgdgdaaRL
set_option linter.unusedVariables false
set_option linter.unusedSimpArgs false
noncomputable def ERW : Eh := specE 21 wordG noE
theorem ERW_ok : EOk Try.prog ERW := rwordG_ok noE_ok
def rlive : List Nat := [0,2,3]
noncomputable def rp1 : List Nat := pathTo 2 (codeOf Try.prog 8)
noncomputable def rc1 : Code := subAt (rp1.dropLast.dropLast.dropLast ++ [0]) (codeOf Try.prog 8)
def I7.cs (i : I7) : List V := [.raw (.int .i64 i.op), .raw (.int .i64 i.d), .raw (.int .i64 i.n), .raw (.int .i64 i.m), .raw (.int .i64 i.a), .raw (.int .i64 i.c), .raw (.int .i64 i.im)]
def z7 : I7 := ⟨0, 0, 0, 0, 0, 0, 0⟩
def RS (w : Int) (op : Nat) (i : I7) : St := ⟨42, [(0, .raw (.int .u32 w)), (2, .ptr 0 0), (3, .raw (.int .i64 (op : Nat)))], [.own i.cs 25]⟩
/-- A guess that is looked at. -/
def leafN {R : Type} (w : Int) (i : I7) (Y N : R) : R := Br (chkV i.op i.d i.n i.m i.a i.c i.im == 0) (Br (i.word == w) Y N) N
def sgn (w p m h : Int) : Bool := (Go.bits .and .u64 (IntKind.u64.wrap (w.fdiv p)) m).fdiv h == 1
def farN (w p m x : Int) : Int := IntKind.i64.wrap (4 * IntKind.i64.wrap (Go.bits .or .u64 (Go.bits .and .u64 (IntKind.u64.wrap (w.fdiv p)) m) x))
def farP (w p m : Int) : Int := IntKind.i64.wrap (4 * IntKind.i64.wrap (Go.bits .and .u64 (IntKind.u64.wrap (w.fdiv p)) m))
def sgn0 (w m h : Int) : Bool := (Go.bits .and .u64 (IntKind.u64.wrap w) m).fdiv h == 1
def farN0 (w m x : Int) : Int := IntKind.i64.wrap (4 * IntKind.i64.wrap (Go.bits .or .u64 (Go.bits .and .u64 (IntKind.u64.wrap w) m) x))
def farP0 (w m : Int) : Int := IntKind.i64.wrap (4 * IntKind.i64.wrap (Go.bits .and .u64 (IntKind.u64.wrap w) m))
def rbody {R : Type} (w : Int) (Y : I7 → R) (N : R) (k : Nat) : R := match k with
  | 1 => leafN w ⟨1, 0, 0, 0, 0, 0, 0⟩ (Y ⟨1, 0, 0, 0, 0, 0, 0⟩) N
  | 2 => leafN w ⟨2, IntKind.i64.wrap (Go.bits .and .u32 w 31), 0, fE w 2097152 3, 0, 0, fE w 32 65535⟩ (Y ⟨2, IntKind.i64.wrap (Go.bits .and .u32 w 31), 0, fE w 2097152 3, 0, 0, fE w 32 65535⟩) N
  | 3 => leafN w ⟨3, IntKind.i64.wrap (Go.bits .and .u32 w 31), 0, fE w 2097152 3, 0, 0, fE w 32 65535⟩ (Y ⟨3, IntKind.i64.wrap (Go.bits .and .u32 w 31), 0, fE w 2097152 3, 0, 0, fE w 32 65535⟩) N
  | 4 => leafN w ⟨4, IntKind.i64.wrap (Go.bits .and .u32 w 31), fE w 32 31, 0, 0, 0, fE w 1024 4095⟩ (Y ⟨4, IntKind.i64.wrap (Go.bits .and .u32 w 31), fE w 32 31, 0, 0, 0, fE w 1024 4095⟩) N
  | 5 => leafN w ⟨5, IntKind.i64.wrap (Go.bits .and .u32 w 31), fE w 32 31, 0, 0, 0, fE w 1024 4095⟩ (Y ⟨5, IntKind.i64.wrap (Go.bits .and .u32 w 31), fE w 32 31, 0, 0, 0, fE w 1024 4095⟩) N
  | 6 => leafN w ⟨6, IntKind.i64.wrap (Go.bits .and .u32 w 31), fE w 32 31, 0, 0, 0, fE w 1024 4095⟩ (Y ⟨6, IntKind.i64.wrap (Go.bits .and .u32 w 31), fE w 32 31, 0, 0, 0, fE w 1024 4095⟩) N
  | 7 => leafN w ⟨7, IntKind.i64.wrap (Go.bits .and .u32 w 31), fE w 32 31, fE w 65536 31, 0, 0, 0⟩ (Y ⟨7, IntKind.i64.wrap (Go.bits .and .u32 w 31), fE w 32 31, fE w 65536 31, 0, 0, 0⟩) N
  | 8 => leafN w ⟨8, IntKind.i64.wrap (Go.bits .and .u32 w 31), fE w 32 31, fE w 65536 31, 0, 0, 0⟩ (Y ⟨8, IntKind.i64.wrap (Go.bits .and .u32 w 31), fE w 32 31, fE w 65536 31, 0, 0, 0⟩) N
  | 9 => leafN w ⟨9, IntKind.i64.wrap (Go.bits .and .u32 w 31), fE w 32 31, fE w 65536 31, 0, 0, 0⟩ (Y ⟨9, IntKind.i64.wrap (Go.bits .and .u32 w 31), fE w 32 31, fE w 65536 31, 0, 0, 0⟩) N
  | 10 => leafN w ⟨10, IntKind.i64.wrap (Go.bits .and .u32 w 31), fE w 32 31, fE w 65536 31, 0, 0, 0⟩ (Y ⟨10, IntKind.i64.wrap (Go.bits .and .u32 w 31), fE w 32 31, fE w 65536 31, 0, 0, 0⟩) N
  | 11 => leafN w ⟨11, IntKind.i64.wrap (Go.bits .and .u32 w 31), fE w 32 31, fE w 65536 31, 0, 0, 0⟩ (Y ⟨11, IntKind.i64.wrap (Go.bits .and .u32 w 31), fE w 32 31, fE w 65536 31, 0, 0, 0⟩) N
  | 12 => leafN w ⟨12, IntKind.i64.wrap (Go.bits .and .u32 w 31), fE w 32 31, fE w 65536 31, 0, 0, 0⟩ (Y ⟨12, IntKind.i64.wrap (Go.bits .and .u32 w 31), fE w 32 31, fE w 65536 31, 0, 0, 0⟩) N
  | 13 => leafN w ⟨13, IntKind.i64.wrap (Go.bits .and .u32 w 31), fE w 32 31, fE w 65536 31, fE w 1024 31, 0, 0⟩ (Y ⟨13, IntKind.i64.wrap (Go.bits .and .u32 w 31), fE w 32 31, fE w 65536 31, fE w 1024 31, 0, 0⟩) N
  | 14 => leafN w ⟨14, IntKind.i64.wrap (Go.bits .and .u32 w 31), fE w 32 31, fE w 65536 31, fE w 1024 31, 0, 0⟩ (Y ⟨14, IntKind.i64.wrap (Go.bits .and .u32 w 31), fE w 32 31, fE w 65536 31, fE w 1024 31, 0, 0⟩) N
  | 15 => leafN w ⟨15, IntKind.i64.wrap (Go.bits .and .u32 w 31), fE w 32 31, fE w 65536 31, 0, 0, 0⟩ (Y ⟨15, IntKind.i64.wrap (Go.bits .and .u32 w 31), fE w 32 31, fE w 65536 31, 0, 0, 0⟩) N
  | 16 => leafN w ⟨16, IntKind.i64.wrap (Go.bits .and .u32 w 31), fE w 32 31, fE w 65536 31, 0, 0, 0⟩ (Y ⟨16, IntKind.i64.wrap (Go.bits .and .u32 w 31), fE w 32 31, fE w 65536 31, 0, 0, 0⟩) N
  | 17 => leafN w ⟨17, IntKind.i64.wrap (Go.bits .and .u32 w 31), fE w 32 31, fE w 65536 31, 0, 0, 0⟩ (Y ⟨17, IntKind.i64.wrap (Go.bits .and .u32 w 31), fE w 32 31, fE w 65536 31, 0, 0, 0⟩) N
  | 18 => leafN w ⟨18, IntKind.i64.wrap (Go.bits .and .u32 w 31), fE w 32 31, fE w 65536 31, 0, 0, 0⟩ (Y ⟨18, IntKind.i64.wrap (Go.bits .and .u32 w 31), fE w 32 31, fE w 65536 31, 0, 0, 0⟩) N
  | 19 => leafN w ⟨19, IntKind.i64.wrap (Go.bits .and .u32 w 31), fE w 32 31, fE w 65536 31, 0, fE w 4096 15, 0⟩ (Y ⟨19, IntKind.i64.wrap (Go.bits .and .u32 w 31), fE w 32 31, fE w 65536 31, 0, fE w 4096 15, 0⟩) N
  | 20 => Br (sgn0 w 67108863 33554432) (leafN w ⟨20, 0, 0, 0, 0, 0, farN0 w 67108863 18446744073642442752⟩ (Y ⟨20, 0, 0, 0, 0, 0, farN0 w 67108863 18446744073642442752⟩) N) (leafN w ⟨20, 0, 0, 0, 0, 0, farP0 w 67108863⟩ (Y ⟨20, 0, 0, 0, 0, 0, farP0 w 67108863⟩) N)
  | 21 => Br (sgn w 32 524287 262144) (leafN w ⟨21, 0, 0, 0, 0, IntKind.i64.wrap (Go.bits .and .u32 w 15), farN w 32 524287 18446744073709027328⟩ (Y ⟨21, 0, 0, 0, 0, IntKind.i64.wrap (Go.bits .and .u32 w 15), farN w 32 524287 18446744073709027328⟩) N) (leafN w ⟨21, 0, 0, 0, 0, IntKind.i64.wrap (Go.bits .and .u32 w 15), farP w 32 524287⟩ (Y ⟨21, 0, 0, 0, 0, IntKind.i64.wrap (Go.bits .and .u32 w 15), farP w 32 524287⟩) N)
  | 22 => Br (sgn w 32 524287 262144) (leafN w ⟨22, IntKind.i64.wrap (Go.bits .and .u32 w 31), 0, 0, 0, 0, farN w 32 524287 18446744073709027328⟩ (Y ⟨22, IntKind.i64.wrap (Go.bits .and .u32 w 31), 0, 0, 0, 0, farN w 32 524287 18446744073709027328⟩) N) (leafN w ⟨22, IntKind.i64.wrap (Go.bits .and .u32 w 31), 0, 0, 0, 0, farP w 32 524287⟩ (Y ⟨22, IntKind.i64.wrap (Go.bits .and .u32 w 31), 0, 0, 0, 0, farP w 32 524287⟩) N)
  | 23 => Br (sgn w 32 524287 262144) (leafN w ⟨23, IntKind.i64.wrap (Go.bits .and .u32 w 31), 0, 0, 0, 0, farN w 32 524287 18446744073709027328⟩ (Y ⟨23, IntKind.i64.wrap (Go.bits .and .u32 w 31), 0, 0, 0, 0, farN w 32 524287 18446744073709027328⟩) N) (leafN w ⟨23, IntKind.i64.wrap (Go.bits .and .u32 w 31), 0, 0, 0, 0, farP w 32 524287⟩ (Y ⟨23, IntKind.i64.wrap (Go.bits .and .u32 w 31), 0, 0, 0, 0, farP w 32 524287⟩) N)
  | 24 => Br (sgn0 w 67108863 33554432) (leafN w ⟨24, 0, 0, 0, 0, 0, farN0 w 67108863 18446744073642442752⟩ (Y ⟨24, 0, 0, 0, 0, 0, farN0 w 67108863 18446744073642442752⟩) N) (leafN w ⟨24, 0, 0, 0, 0, 0, farP0 w 67108863⟩ (Y ⟨24, 0, 0, 0, 0, 0, farP0 w 67108863⟩) N)
  | 25 => leafN w ⟨25, 0, fE w 32 31, 0, 0, 0, 0⟩ (Y ⟨25, 0, fE w 32 31, 0, 0, 0, 0⟩) N
  | 26 => leafN w ⟨26, 0, fE w 32 31, 0, 0, 0, 0⟩ (Y ⟨26, 0, fE w 32 31, 0, 0, 0, 0⟩) N
  | 27 => leafN w ⟨27, 0, fE w 32 31, 0, 0, 0, 0⟩ (Y ⟨27, 0, fE w 32 31, 0, 0, 0, 0⟩) N
  | 28 => leafN w ⟨28, IntKind.i64.wrap (Go.bits .and .u32 w 31), fE w 32 31, 0, 0, 0, IntKind.i64.wrap (8 * fE w 1024 4095)⟩ (Y ⟨28, IntKind.i64.wrap (Go.bits .and .u32 w 31), fE w 32 31, 0, 0, 0, IntKind.i64.wrap (8 * fE w 1024 4095)⟩) N
  | 29 => leafN w ⟨29, IntKind.i64.wrap (Go.bits .and .u32 w 31), fE w 32 31, 0, 0, 0, IntKind.i64.wrap (8 * fE w 1024 4095)⟩ (Y ⟨29, IntKind.i64.wrap (Go.bits .and .u32 w 31), fE w 32 31, 0, 0, 0, IntKind.i64.wrap (8 * fE w 1024 4095)⟩) N
  | 30 => leafN w ⟨30, IntKind.i64.wrap (Go.bits .and .u32 w 31), fE w 32 31, 0, 0, 0, fE w 1024 4095⟩ (Y ⟨30, IntKind.i64.wrap (Go.bits .and .u32 w 31), fE w 32 31, 0, 0, 0, fE w 1024 4095⟩) N
  | 31 => leafN w ⟨31, IntKind.i64.wrap (Go.bits .and .u32 w 31), fE w 32 31, fE w 65536 31, 0, 0, 0⟩ (Y ⟨31, IntKind.i64.wrap (Go.bits .and .u32 w 31), fE w 32 31, fE w 65536 31, 0, 0, 0⟩) N
  | 32 => leafN w ⟨32, IntKind.i64.wrap (Go.bits .and .u32 w 31), fE w 32 31, fE w 65536 31, 0, 0, 0⟩ (Y ⟨32, IntKind.i64.wrap (Go.bits .and .u32 w 31), fE w 32 31, fE w 65536 31, 0, 0, 0⟩) N
  | 33 => leafN w ⟨33, IntKind.i64.wrap (Go.bits .and .u32 w 31), fE w 32 31, 0, 0, 0, 0⟩ (Y ⟨33, IntKind.i64.wrap (Go.bits .and .u32 w 31), fE w 32 31, 0, 0, 0, 0⟩) N
  | 34 => leafN w ⟨34, IntKind.i64.wrap (Go.bits .and .u32 w 31), fE w 32 31, 0, 0, 0, 0⟩ (Y ⟨34, IntKind.i64.wrap (Go.bits .and .u32 w 31), fE w 32 31, 0, 0, 0, 0⟩) N
  | 35 => leafN w ⟨35, IntKind.i64.wrap (Go.bits .and .u32 w 31), fE w 32 31, 0, 0, 0, 0⟩ (Y ⟨35, IntKind.i64.wrap (Go.bits .and .u32 w 31), fE w 32 31, 0, 0, 0, 0⟩) N
  | 36 => leafN w ⟨36, fE w 65536 31, fE w 32 31, IntKind.i64.wrap (Go.bits .and .u32 w 31), 0, 0, 0⟩ (Y ⟨36, fE w 65536 31, fE w 32 31, IntKind.i64.wrap (Go.bits .and .u32 w 31), 0, 0, 0⟩) N
  | 37 => leafN w ⟨37, 0, 0, 0, 0, 0, 0⟩ (Y ⟨37, 0, 0, 0, 0, 0, 0⟩) (leafN w ⟨37, 0, 0, 0, 0, 0, 1⟩ (Y ⟨37, 0, 0, 0, 0, 0, 1⟩) (leafN w ⟨37, 0, 0, 0, 0, 0, 2⟩ (Y ⟨37, 0, 0, 0, 0, 0, 2⟩) N))
  | 38 => leafN w ⟨38, 0, 0, 0, 0, 0, 0⟩ (Y ⟨38, 0, 0, 0, 0, 0, 0⟩) N
  | 39 => leafN w ⟨39, 0, 0, 0, 0, 0, 0⟩ (Y ⟨39, 0, 0, 0, 0, 0, 0⟩) N
  | 40 => leafN w ⟨40, 0, IntKind.i64.wrap (Go.bits .and .u32 w 31), 0, 0, 0, 0⟩ (Y ⟨40, 0, IntKind.i64.wrap (Go.bits .and .u32 w 31), 0, 0, 0, 0⟩) N
  | 41 => leafN w ⟨41, 0, IntKind.i64.wrap (Go.bits .and .u32 w 31), 0, 0, 0, 0⟩ (Y ⟨41, 0, IntKind.i64.wrap (Go.bits .and .u32 w 31), 0, 0, 0, 0⟩) N
  | 42 => leafN w ⟨42, 0, 0, 0, 0, 0, fE w 32 65535⟩ (Y ⟨42, 0, 0, 0, 0, 0, fE w 32 65535⟩) N
  | _ => N
set_option maxRecDepth 1000000 in
theorem rbody_1 (w : Int) (K : Ex → St → Prop) : evG Try.prog ERW 60 (lft (subAt rp1 (codeOf Try.prog 8))) (RS w 1 z7) (fun e st => K e (gcSt 0 rlive st)) = rbody w (fun i => K .ret (RS w 1 i)) (K .normal (RS w 2 z7)) 1 := by kernel_rfl
set_option maxRecDepth 1000000 in
theorem rbody_2 (w : Int) (K : Ex → St → Prop) : evG Try.prog ERW 60 (lft (subAt rp1 (codeOf Try.prog 8))) (RS w 2 z7) (fun e st => K e (gcSt 0 rlive st)) = rbody w (fun i => K .ret (RS w 2 i)) (K .normal (RS w 3 z7)) 2 := by kernel_rfl
set_option maxRecDepth 1000000 in
theorem rbody_3 (w : Int) (K : Ex → St → Prop) : evG Try.prog ERW 60 (lft (subAt rp1 (codeOf Try.prog 8))) (RS w 3 z7) (fun e st => K e (gcSt 0 rlive st)) = rbody w (fun i => K .ret (RS w 3 i)) (K .normal (RS w 4 z7)) 3 := by kernel_rfl
set_option maxRecDepth 1000000 in
theorem rbody_4 (w : Int) (K : Ex → St → Prop) : evG Try.prog ERW 60 (lft (subAt rp1 (codeOf Try.prog 8))) (RS w 4 z7) (fun e st => K e (gcSt 0 rlive st)) = rbody w (fun i => K .ret (RS w 4 i)) (K .normal (RS w 5 z7)) 4 := by kernel_rfl
set_option maxRecDepth 1000000 in
theorem rbody_5 (w : Int) (K : Ex → St → Prop) : evG Try.prog ERW 60 (lft (subAt rp1 (codeOf Try.prog 8))) (RS w 5 z7) (fun e st => K e (gcSt 0 rlive st)) = rbody w (fun i => K .ret (RS w 5 i)) (K .normal (RS w 6 z7)) 5 := by kernel_rfl
set_option maxRecDepth 1000000 in
theorem rbody_6 (w : Int) (K : Ex → St → Prop) : evG Try.prog ERW 60 (lft (subAt rp1 (codeOf Try.prog 8))) (RS w 6 z7) (fun e st => K e (gcSt 0 rlive st)) = rbody w (fun i => K .ret (RS w 6 i)) (K .normal (RS w 7 z7)) 6 := by kernel_rfl
set_option maxRecDepth 1000000 in
theorem rbody_7 (w : Int) (K : Ex → St → Prop) : evG Try.prog ERW 60 (lft (subAt rp1 (codeOf Try.prog 8))) (RS w 7 z7) (fun e st => K e (gcSt 0 rlive st)) = rbody w (fun i => K .ret (RS w 7 i)) (K .normal (RS w 8 z7)) 7 := by kernel_rfl
set_option maxRecDepth 1000000 in
theorem rbody_8 (w : Int) (K : Ex → St → Prop) : evG Try.prog ERW 60 (lft (subAt rp1 (codeOf Try.prog 8))) (RS w 8 z7) (fun e st => K e (gcSt 0 rlive st)) = rbody w (fun i => K .ret (RS w 8 i)) (K .normal (RS w 9 z7)) 8 := by kernel_rfl
set_option maxRecDepth 1000000 in
theorem rbody_9 (w : Int) (K : Ex → St → Prop) : evG Try.prog ERW 60 (lft (subAt rp1 (codeOf Try.prog 8))) (RS w 9 z7) (fun e st => K e (gcSt 0 rlive st)) = rbody w (fun i => K .ret (RS w 9 i)) (K .normal (RS w 10 z7)) 9 := by kernel_rfl
set_option maxRecDepth 1000000 in
theorem rbody_10 (w : Int) (K : Ex → St → Prop) : evG Try.prog ERW 60 (lft (subAt rp1 (codeOf Try.prog 8))) (RS w 10 z7) (fun e st => K e (gcSt 0 rlive st)) = rbody w (fun i => K .ret (RS w 10 i)) (K .normal (RS w 11 z7)) 10 := by kernel_rfl
set_option maxRecDepth 1000000 in
theorem rbody_11 (w : Int) (K : Ex → St → Prop) : evG Try.prog ERW 60 (lft (subAt rp1 (codeOf Try.prog 8))) (RS w 11 z7) (fun e st => K e (gcSt 0 rlive st)) = rbody w (fun i => K .ret (RS w 11 i)) (K .normal (RS w 12 z7)) 11 := by kernel_rfl
set_option maxRecDepth 1000000 in
theorem rbody_12 (w : Int) (K : Ex → St → Prop) : evG Try.prog ERW 60 (lft (subAt rp1 (codeOf Try.prog 8))) (RS w 12 z7) (fun e st => K e (gcSt 0 rlive st)) = rbody w (fun i => K .ret (RS w 12 i)) (K .normal (RS w 13 z7)) 12 := by kernel_rfl
set_option maxRecDepth 1000000 in
theorem rbody_13 (w : Int) (K : Ex → St → Prop) : evG Try.prog ERW 60 (lft (subAt rp1 (codeOf Try.prog 8))) (RS w 13 z7) (fun e st => K e (gcSt 0 rlive st)) = rbody w (fun i => K .ret (RS w 13 i)) (K .normal (RS w 14 z7)) 13 := by kernel_rfl
set_option maxRecDepth 1000000 in
theorem rbody_14 (w : Int) (K : Ex → St → Prop) : evG Try.prog ERW 60 (lft (subAt rp1 (codeOf Try.prog 8))) (RS w 14 z7) (fun e st => K e (gcSt 0 rlive st)) = rbody w (fun i => K .ret (RS w 14 i)) (K .normal (RS w 15 z7)) 14 := by kernel_rfl
set_option maxRecDepth 1000000 in
theorem rbody_15 (w : Int) (K : Ex → St → Prop) : evG Try.prog ERW 60 (lft (subAt rp1 (codeOf Try.prog 8))) (RS w 15 z7) (fun e st => K e (gcSt 0 rlive st)) = rbody w (fun i => K .ret (RS w 15 i)) (K .normal (RS w 16 z7)) 15 := by kernel_rfl
set_option maxRecDepth 1000000 in
theorem rbody_16 (w : Int) (K : Ex → St → Prop) : evG Try.prog ERW 60 (lft (subAt rp1 (codeOf Try.prog 8))) (RS w 16 z7) (fun e st => K e (gcSt 0 rlive st)) = rbody w (fun i => K .ret (RS w 16 i)) (K .normal (RS w 17 z7)) 16 := by kernel_rfl
set_option maxRecDepth 1000000 in
theorem rbody_17 (w : Int) (K : Ex → St → Prop) : evG Try.prog ERW 60 (lft (subAt rp1 (codeOf Try.prog 8))) (RS w 17 z7) (fun e st => K e (gcSt 0 rlive st)) = rbody w (fun i => K .ret (RS w 17 i)) (K .normal (RS w 18 z7)) 17 := by kernel_rfl
set_option maxRecDepth 1000000 in
theorem rbody_18 (w : Int) (K : Ex → St → Prop) : evG Try.prog ERW 60 (lft (subAt rp1 (codeOf Try.prog 8))) (RS w 18 z7) (fun e st => K e (gcSt 0 rlive st)) = rbody w (fun i => K .ret (RS w 18 i)) (K .normal (RS w 19 z7)) 18 := by kernel_rfl
set_option maxRecDepth 1000000 in
theorem rbody_19 (w : Int) (K : Ex → St → Prop) : evG Try.prog ERW 60 (lft (subAt rp1 (codeOf Try.prog 8))) (RS w 19 z7) (fun e st => K e (gcSt 0 rlive st)) = rbody w (fun i => K .ret (RS w 19 i)) (K .normal (RS w 20 z7)) 19 := by kernel_rfl
set_option maxRecDepth 1000000 in
theorem rbody_20 (w : Int) (K : Ex → St → Prop) : evG Try.prog ERW 60 (lft (subAt rp1 (codeOf Try.prog 8))) (RS w 20 z7) (fun e st => K e (gcSt 0 rlive st)) = rbody w (fun i => K .ret (RS w 20 i)) (K .normal (RS w 21 z7)) 20 := by kernel_rfl
set_option maxRecDepth 1000000 in
theorem rbody_21 (w : Int) (K : Ex → St → Prop) : evG Try.prog ERW 60 (lft (subAt rp1 (codeOf Try.prog 8))) (RS w 21 z7) (fun e st => K e (gcSt 0 rlive st)) = rbody w (fun i => K .ret (RS w 21 i)) (K .normal (RS w 22 z7)) 21 := by kernel_rfl
set_option maxRecDepth 1000000 in
theorem rbody_22 (w : Int) (K : Ex → St → Prop) : evG Try.prog ERW 60 (lft (subAt rp1 (codeOf Try.prog 8))) (RS w 22 z7) (fun e st => K e (gcSt 0 rlive st)) = rbody w (fun i => K .ret (RS w 22 i)) (K .normal (RS w 23 z7)) 22 := by kernel_rfl
set_option maxRecDepth 1000000 in
theorem rbody_23 (w : Int) (K : Ex → St → Prop) : evG Try.prog ERW 60 (lft (subAt rp1 (codeOf Try.prog 8))) (RS w 23 z7) (fun e st => K e (gcSt 0 rlive st)) = rbody w (fun i => K .ret (RS w 23 i)) (K .normal (RS w 24 z7)) 23 := by kernel_rfl
set_option maxRecDepth 1000000 in
theorem rbody_24 (w : Int) (K : Ex → St → Prop) : evG Try.prog ERW 60 (lft (subAt rp1 (codeOf Try.prog 8))) (RS w 24 z7) (fun e st => K e (gcSt 0 rlive st)) = rbody w (fun i => K .ret (RS w 24 i)) (K .normal (RS w 25 z7)) 24 := by kernel_rfl
set_option maxRecDepth 1000000 in
theorem rbody_25 (w : Int) (K : Ex → St → Prop) : evG Try.prog ERW 60 (lft (subAt rp1 (codeOf Try.prog 8))) (RS w 25 z7) (fun e st => K e (gcSt 0 rlive st)) = rbody w (fun i => K .ret (RS w 25 i)) (K .normal (RS w 26 z7)) 25 := by kernel_rfl
set_option maxRecDepth 1000000 in
theorem rbody_26 (w : Int) (K : Ex → St → Prop) : evG Try.prog ERW 60 (lft (subAt rp1 (codeOf Try.prog 8))) (RS w 26 z7) (fun e st => K e (gcSt 0 rlive st)) = rbody w (fun i => K .ret (RS w 26 i)) (K .normal (RS w 27 z7)) 26 := by kernel_rfl
set_option maxRecDepth 1000000 in
theorem rbody_27 (w : Int) (K : Ex → St → Prop) : evG Try.prog ERW 60 (lft (subAt rp1 (codeOf Try.prog 8))) (RS w 27 z7) (fun e st => K e (gcSt 0 rlive st)) = rbody w (fun i => K .ret (RS w 27 i)) (K .normal (RS w 28 z7)) 27 := by kernel_rfl
set_option maxRecDepth 1000000 in
theorem rbody_28 (w : Int) (K : Ex → St → Prop) : evG Try.prog ERW 60 (lft (subAt rp1 (codeOf Try.prog 8))) (RS w 28 z7) (fun e st => K e (gcSt 0 rlive st)) = rbody w (fun i => K .ret (RS w 28 i)) (K .normal (RS w 29 z7)) 28 := by kernel_rfl
set_option maxRecDepth 1000000 in
theorem rbody_29 (w : Int) (K : Ex → St → Prop) : evG Try.prog ERW 60 (lft (subAt rp1 (codeOf Try.prog 8))) (RS w 29 z7) (fun e st => K e (gcSt 0 rlive st)) = rbody w (fun i => K .ret (RS w 29 i)) (K .normal (RS w 30 z7)) 29 := by kernel_rfl
set_option maxRecDepth 1000000 in
theorem rbody_30 (w : Int) (K : Ex → St → Prop) : evG Try.prog ERW 60 (lft (subAt rp1 (codeOf Try.prog 8))) (RS w 30 z7) (fun e st => K e (gcSt 0 rlive st)) = rbody w (fun i => K .ret (RS w 30 i)) (K .normal (RS w 31 z7)) 30 := by kernel_rfl
set_option maxRecDepth 1000000 in
theorem rbody_31 (w : Int) (K : Ex → St → Prop) : evG Try.prog ERW 60 (lft (subAt rp1 (codeOf Try.prog 8))) (RS w 31 z7) (fun e st => K e (gcSt 0 rlive st)) = rbody w (fun i => K .ret (RS w 31 i)) (K .normal (RS w 32 z7)) 31 := by kernel_rfl
set_option maxRecDepth 1000000 in
theorem rbody_32 (w : Int) (K : Ex → St → Prop) : evG Try.prog ERW 60 (lft (subAt rp1 (codeOf Try.prog 8))) (RS w 32 z7) (fun e st => K e (gcSt 0 rlive st)) = rbody w (fun i => K .ret (RS w 32 i)) (K .normal (RS w 33 z7)) 32 := by kernel_rfl
set_option maxRecDepth 1000000 in
theorem rbody_33 (w : Int) (K : Ex → St → Prop) : evG Try.prog ERW 60 (lft (subAt rp1 (codeOf Try.prog 8))) (RS w 33 z7) (fun e st => K e (gcSt 0 rlive st)) = rbody w (fun i => K .ret (RS w 33 i)) (K .normal (RS w 34 z7)) 33 := by kernel_rfl
set_option maxRecDepth 1000000 in
theorem rbody_34 (w : Int) (K : Ex → St → Prop) : evG Try.prog ERW 60 (lft (subAt rp1 (codeOf Try.prog 8))) (RS w 34 z7) (fun e st => K e (gcSt 0 rlive st)) = rbody w (fun i => K .ret (RS w 34 i)) (K .normal (RS w 35 z7)) 34 := by kernel_rfl
set_option maxRecDepth 1000000 in
theorem rbody_35 (w : Int) (K : Ex → St → Prop) : evG Try.prog ERW 60 (lft (subAt rp1 (codeOf Try.prog 8))) (RS w 35 z7) (fun e st => K e (gcSt 0 rlive st)) = rbody w (fun i => K .ret (RS w 35 i)) (K .normal (RS w 36 z7)) 35 := by kernel_rfl
set_option maxRecDepth 1000000 in
theorem rbody_36 (w : Int) (K : Ex → St → Prop) : evG Try.prog ERW 60 (lft (subAt rp1 (codeOf Try.prog 8))) (RS w 36 z7) (fun e st => K e (gcSt 0 rlive st)) = rbody w (fun i => K .ret (RS w 36 i)) (K .normal (RS w 37 z7)) 36 := by kernel_rfl
set_option maxRecDepth 1000000 in
theorem rbody_37 (w : Int) (K : Ex → St → Prop) : evG Try.prog ERW 60 (lft (subAt rp1 (codeOf Try.prog 8))) (RS w 37 z7) (fun e st => K e (gcSt 0 rlive st)) = rbody w (fun i => K .ret (RS w 37 i)) (K .normal (RS w 38 z7)) 37 := by kernel_rfl
set_option maxRecDepth 1000000 in
theorem rbody_38 (w : Int) (K : Ex → St → Prop) : evG Try.prog ERW 60 (lft (subAt rp1 (codeOf Try.prog 8))) (RS w 38 z7) (fun e st => K e (gcSt 0 rlive st)) = rbody w (fun i => K .ret (RS w 38 i)) (K .normal (RS w 39 z7)) 38 := by kernel_rfl
set_option maxRecDepth 1000000 in
theorem rbody_39 (w : Int) (K : Ex → St → Prop) : evG Try.prog ERW 60 (lft (subAt rp1 (codeOf Try.prog 8))) (RS w 39 z7) (fun e st => K e (gcSt 0 rlive st)) = rbody w (fun i => K .ret (RS w 39 i)) (K .normal (RS w 40 z7)) 39 := by kernel_rfl
set_option maxRecDepth 1000000 in
theorem rbody_40 (w : Int) (K : Ex → St → Prop) : evG Try.prog ERW 60 (lft (subAt rp1 (codeOf Try.prog 8))) (RS w 40 z7) (fun e st => K e (gcSt 0 rlive st)) = rbody w (fun i => K .ret (RS w 40 i)) (K .normal (RS w 41 z7)) 40 := by kernel_rfl
set_option maxRecDepth 1000000 in
theorem rbody_41 (w : Int) (K : Ex → St → Prop) : evG Try.prog ERW 60 (lft (subAt rp1 (codeOf Try.prog 8))) (RS w 41 z7) (fun e st => K e (gcSt 0 rlive st)) = rbody w (fun i => K .ret (RS w 41 i)) (K .normal (RS w 42 z7)) 41 := by kernel_rfl
set_option maxRecDepth 1000000 in
theorem rbody_42 (w : Int) (K : Ex → St → Prop) : evG Try.prog ERW 60 (lft (subAt rp1 (codeOf Try.prog 8))) (RS w 42 z7) (fun e st => K e (gcSt 0 rlive st)) = rbody w (fun i => K .ret (RS w 42 i)) (K .normal (RS w 43 z7)) 42 := by kernel_rfl
theorem rbody_in (w : Int) (K : Ex → St → Prop) : ∀ k : Nat, 0 < k → k < 43 → evG Try.prog ERW 60 (lft (subAt rp1 (codeOf Try.prog 8))) (RS w k z7) (fun e st => K e (gcSt 0 rlive st)) = rbody w (fun i => K .ret (RS w k i)) (K .normal (RS w (k + 1) z7)) k
  | 0, h, _ => absurd h (by omega)
  | 1, _, _ => rbody_1 ..
  | 2, _, _ => rbody_2 ..
  | 3, _, _ => rbody_3 ..
  | 4, _, _ => rbody_4 ..
  | 5, _, _ => rbody_5 ..
  | 6, _, _ => rbody_6 ..
  | 7, _, _ => rbody_7 ..
  | 8, _, _ => rbody_8 ..
  | 9, _, _ => rbody_9 ..
  | 10, _, _ => rbody_10 ..
  | 11, _, _ => rbody_11 ..
  | 12, _, _ => rbody_12 ..
  | 13, _, _ => rbody_13 ..
  | 14, _, _ => rbody_14 ..
  | 15, _, _ => rbody_15 ..
  | 16, _, _ => rbody_16 ..
  | 17, _, _ => rbody_17 ..
  | 18, _, _ => rbody_18 ..
  | 19, _, _ => rbody_19 ..
  | 20, _, _ => rbody_20 ..
  | 21, _, _ => rbody_21 ..
  | 22, _, _ => rbody_22 ..
  | 23, _, _ => rbody_23 ..
  | 24, _, _ => rbody_24 ..
  | 25, _, _ => rbody_25 ..
  | 26, _, _ => rbody_26 ..
  | 27, _, _ => rbody_27 ..
  | 28, _, _ => rbody_28 ..
  | 29, _, _ => rbody_29 ..
  | 30, _, _ => rbody_30 ..
  | 31, _, _ => rbody_31 ..
  | 32, _, _ => rbody_32 ..
  | 33, _, _ => rbody_33 ..
  | 34, _, _ => rbody_34 ..
  | 35, _, _ => rbody_35 ..
  | 36, _, _ => rbody_36 ..
  | 37, _, _ => rbody_37 ..
  | 38, _, _ => rbody_38 ..
  | 39, _, _ => rbody_39 ..
  | 40, _, _ => rbody_40 ..
  | 41, _, _ => rbody_41 ..
  | 42, _, _ => rbody_42 ..
  | k + 43, _, h => absurd h (by omega)
theorem rbody_43 (w : Int) (K : Ex → St → Prop) : evG Try.prog ERW 60 (lft (subAt rp1 (codeOf Try.prog 8))) (RS w 43 z7) (fun e st => K e (gcSt 0 rlive st)) = K (.exit 0) (RS w 43 z7) := by kernel_rfl
theorem rpre (w : Int) (K : Res → Sto → Prop) (Z : St → Prop) : evTo Try.prog ERW 60 0 (fun st => Z (gcSt 0 rlive st)) rp1 (codeOf Try.prog 8) ⟨(funcOf Try.prog 8).ntmps, zipArgs 0 [.raw (.int .u32 w)], []⟩ (bodyK False Try.prog (funcOf Try.prog 8) K) = Z (RS w 1 z7) := by kernel_rfl
theorem rpost (w : Int) (K : Res → Prop) : evG Try.prog ERW 60 rc1 (RS w 43 z7) (bodyK False Try.prog (funcOf Try.prog 8) fun r _ => K r) = K (.ret (udfE w)) := by kernel_rfl
theorem rret (w : Int) (k : Nat) (i : I7) (K : Res → Prop) : ctxK Try.prog 0 rp1 (codeOf Try.prog 8) (bodyK False Try.prog (funcOf Try.prog 8) fun r _ => K r) .ret (RS w k i) = K (.ret i.v) := by kernel_rfl
theorem rafter (K : Ex → St → Prop) (st : St) : ctxK Try.prog 0 rp1 (codeOf Try.prog 8) K (.exit 0) st = CodeB Try.prog 0 rc1 st K := by kernel_rfl
theorem leafN_eq {R : Type} (w : Int) (i : I7) (Y N : R) : leafN w i Y N = if i.ok ∧ i.word = w then Y else N := by
  unfold leafN
  by_cases c1 : i.ok
  · have c2 : chkV i.op i.d i.n i.m i.a i.c i.im = 0 := if_pos c1
    rw [c2]
    show Br (i.word == w) Y N = _
    rw [beq_dec, Br_if]
    by_cases c3 : i.word = w
    · rw [if_pos c3, if_pos ⟨c1, c3⟩]
    · rw [if_neg c3, if_neg (fun h => c3 h.2)]
  · have c2 : chkV i.op i.d i.n i.m i.a i.c i.im = 1 := if_neg c1
    rw [c2, if_neg (fun h => c1 h.1)]; rfl
theorem f0_eq {w : Int} (n : Nat) (m M : Int) (hm : m = ((2 ^ n - 1 : Nat) : Int)) (hM : M = ((2 ^ n : Nat) : Int)) (hn : n ≤ 31) (h0 : 0 ≤ w) (h1 : w < 4294967296) : IntKind.i64.wrap (Go.bits .and .u32 w m) = w % M := by
  have h := fE_eq (w := w) 0 n 1 m M rfl hm hM (by omega) h0 h1
  unfold fE at h
  rw [Int.fdiv_eq_ediv_of_nonneg _ (by omega), Int.ediv_one] at h
  exact h
theorem and_u64 {x : Int} (n : Nat) (h0 : 0 ≤ x) (h1 : x < 18446744073709551616) (hn : n ≤ 32) : Go.bits .and .u64 x (((2 ^ n - 1 : Nat)) : Int) = x % ((2 ^ n : Nat) : Int) := by
  obtain ⟨a, rfl⟩ := Int.eq_ofNat_of_zero_le h0
  have hm : 2 ^ n - 1 < 2 ^ IntKind.u64.bits := by
    have : 2 ^ n ≤ 2 ^ 32 := Nat.pow_le_pow_right (by omega) hn
    have h2 := Nat.two_pow_pos n
    show 2 ^ n - 1 < 2 ^ 64
    omega
  rw [nat_and .u64 a (2 ^ n - 1) rfl (by show a < 2 ^ 64; omega) hm, Nat.and_two_pow_sub_one_eq_mod]
  rfl
theorem or_top {x : Int} (n : Nat) (c : Int) (hc : c = (((2 ^ (64 - n) - 1) * 2 ^ n : Nat) : Int)) (hn : n ≤ 32) (h0 : 0 ≤ x) (h1 : x < ((2 ^ n : Nat) : Int)) : Go.bits .or .u64 x c = x + c := by
  subst hc
  obtain ⟨a, rfl⟩ := Int.eq_ofNat_of_zero_le h0
  have ha : a < 2 ^ n := by omega
  have p : 2 ^ n ≤ 2 ^ 32 := Nat.pow_le_pow_right (by omega) hn
  have hm : (2 ^ (64 - n) - 1) * 2 ^ n < 2 ^ 64 := by
    have h1 : (2 ^ (64 - n) - 1) * 2 ^ n < 2 ^ (64 - n) * 2 ^ n := Nat.mul_lt_mul_of_pos_right (by have := Nat.two_pow_pos (64 - n); omega) (Nat.two_pow_pos n)
    rw [← Nat.pow_add, show 64 - n + n = 64 by omega] at h1
    exact h1
  rw [nat_or .u64 a _ rfl (by show a < 2 ^ 64; omega) (by show _ < 2 ^ 64; exact hm), or_apart a n (64 - n) _ (by have := Nat.two_pow_pos (64 - n); omega) (by rw [Nat.div_eq_of_lt ha, Nat.zero_mod]), Int.natCast_add]
theorem far_eq {y : Int} (n : Nat) (m M H c : Int) (hm : m = ((2 ^ n - 1 : Nat) : Int)) (hM : M = ((2 ^ n : Nat) : Int)) (hc : c = (((2 ^ (64 - n) - 1) * 2 ^ n : Nat) : Int)) (hH : H * 2 = M) (hn : n ≤ 26) (hn0 : 1 ≤ n) (hcM : c = 18446744073709551616 - M) (h0 : 0 ≤ y) (h1 : y < 4294967296) :
    ((Go.bits .and .u64 (IntKind.u64.wrap y) m).fdiv H == 1) = decide (y % M ≥ H) ∧ (y % M ≥ H → IntKind.i64.wrap (4 * IntKind.i64.wrap (Go.bits .or .u64 (Go.bits .and .u64 (IntKind.u64.wrap y) m) c)) = 4 * sx M (y % M)) ∧ (¬ y % M ≥ H → IntKind.i64.wrap (4 * IntKind.i64.wrap (Go.bits .and .u64 (IntKind.u64.wrap y) m)) = 4 * sx M (y % M)) := by
  have hM0 : 0 < M := by subst hM; exact Int.natCast_pos.2 (Nat.two_pow_pos n)
  have hM1 : M ≤ 67108864 := by
    subst hM
    have : 2 ^ n ≤ 2 ^ 26 := Nat.pow_le_pow_right (by omega) hn
    omega
  have e1 : Go.bits .and .u64 (IntKind.u64.wrap y) m = y % M := by
    subst hm hM
    rw [IntWalk.u64_in y (by omega), and_u64 n h0 (by omega) (by omega)]
  rw [e1]
  have h5 := Int.emod_nonneg y (show M ≠ 0 by omega)
  have h6 := Int.emod_lt_of_pos y hM0
  generalize y % M = x at h5 h6
  have hH2 : M / 2 = H := by omega
  refine ⟨?_, fun hx => ?_, fun hx => ?_⟩
  · rw [beq_dec, Int.fdiv_eq_ediv_of_nonneg _ (by omega)]
    refine decide_eq_decide.2 ?_
    constructor
    · intro h
      by_cases h7 : x < H
      · rw [Int.ediv_eq_zero_of_lt h5 h7] at h; omega
      · omega
    · intro h
      have h8 : x / H = (x - H) / H + 1 := by rw [show x = (x - H) + 1 * H by omega, Int.add_mul_ediv_right _ _ (by omega)]; congr 2; omega
      rw [h8, Int.ediv_eq_zero_of_lt (by omega) (by omega)]; rfl
  · rw [or_top n c hc (by omega) h5 (by subst hM; exact h6), hcM, wrap_i64 (x + _)]
    unfold sx
    rw [hH2, if_pos hx]
    have : (x + (18446744073709551616 - M) + 9223372036854775808) % 18446744073709551616 - 9223372036854775808 = x - M := by omega
    rw [this, wrap_i64_in (by omega) (by omega)]
  · unfold sx
    rw [hH2, if_neg hx, wrap_i64_in (n := x) (by omega) (by omega), wrap_i64_in (by omega) (by omega)]
theorem leaf_ext {R : Type} {w : Int} {i j : I7} {Y : I7 → R} {N : R} (h : i = j) : leafN w i (Y i) N = if j.ok ∧ j.word = w then Y j else N := by subst h; exact leafN_eq ..
theorem rbody_eq {R : Type} {w : Int} (h0 : 0 ≤ w) (h1 : w < 4294967296) (Y : I7 → R) (N : R) : ∀ k : Nat, 0 < k → k < 43 → rbody w Y N k = if (decF k w).ok ∧ (decF k w).word = w then Y (decF k w) else N
  | 0, h, _ => absurd h (by omega)
  | 1, _, _ => leaf_ext (I7.ext rfl rfl rfl rfl rfl rfl rfl)
  | 2, _, _ => leaf_ext (I7.ext rfl (f0_eq 5 31 32 rfl rfl (by omega) h0 h1) rfl (fE_eq 21 2 2097152 3 4 rfl rfl rfl (by omega) h0 h1) rfl rfl (fE_eq 5 16 32 65535 65536 rfl rfl rfl (by omega) h0 h1))
  | 3, _, _ => leaf_ext (I7.ext rfl (f0_eq 5 31 32 rfl rfl (by omega) h0 h1) rfl (fE_eq 21 2 2097152 3 4 rfl rfl rfl (by omega) h0 h1) rfl rfl (fE_eq 5 16 32 65535 65536 rfl rfl rfl (by omega) h0 h1))
  | 4, _, _ => leaf_ext (I7.ext rfl (f0_eq 5 31 32 rfl rfl (by omega) h0 h1) (fE_eq 5 5 32 31 32 rfl rfl rfl (by omega) h0 h1) rfl rfl rfl (fE_eq 10 12 1024 4095 4096 rfl rfl rfl (by omega) h0 h1))
  | 5, _, _ => leaf_ext (I7.ext rfl (f0_eq 5 31 32 rfl rfl (by omega) h0 h1) (fE_eq 5 5 32 31 32 rfl rfl rfl (by omega) h0 h1) rfl rfl rfl (fE_eq 10 12 1024 4095 4096 rfl rfl rfl (by omega) h0 h1))
  | 6, _, _ => leaf_ext (I7.ext rfl (f0_eq 5 31 32 rfl rfl (by omega) h0 h1) (fE_eq 5 5 32 31 32 rfl rfl rfl (by omega) h0 h1) rfl rfl rfl (fE_eq 10 12 1024 4095 4096 rfl rfl rfl (by omega) h0 h1))
  | 7, _, _ => leaf_ext (I7.ext rfl (f0_eq 5 31 32 rfl rfl (by omega) h0 h1) (fE_eq 5 5 32 31 32 rfl rfl rfl (by omega) h0 h1) (fE_eq 16 5 65536 31 32 rfl rfl rfl (by omega) h0 h1) rfl rfl rfl)
  | 8, _, _ => leaf_ext (I7.ext rfl (f0_eq 5 31 32 rfl rfl (by omega) h0 h1) (fE_eq 5 5 32 31 32 rfl rfl rfl (by omega) h0 h1) (fE_eq 16 5 65536 31 32 rfl rfl rfl (by omega) h0 h1) rfl rfl rfl)
  | 9, _, _ => leaf_ext (I7.ext rfl (f0_eq 5 31 32 rfl rfl (by omega) h0 h1) (fE_eq 5 5 32 31 32 rfl rfl rfl (by omega) h0 h1) (fE_eq 16 5 65536 31 32 rfl rfl rfl (by omega) h0 h1) rfl rfl rfl)
  | 10, _, _ => leaf_ext (I7.ext rfl (f0_eq 5 31 32 rfl rfl (by omega) h0 h1) (fE_eq 5 5 32 31 32 rfl rfl rfl (by omega) h0 h1) (fE_eq 16 5 65536 31 32 rfl rfl rfl (by omega) h0 h1) rfl rfl rfl)
  | 11, _, _ => leaf_ext (I7.ext rfl (f0_eq 5 31 32 rfl rfl (by omega) h0 h1) (fE_eq 5 5 32 31 32 rfl rfl rfl (by omega) h0 h1) (fE_eq 16 5 65536 31 32 rfl rfl rfl (by omega) h0 h1) rfl rfl rfl)
  | 12, _, _ => leaf_ext (I7.ext rfl (f0_eq 5 31 32 rfl rfl (by omega) h0 h1) (fE_eq 5 5 32 31 32 rfl rfl rfl (by omega) h0 h1) (fE_eq 16 5 65536 31 32 rfl rfl rfl (by omega) h0 h1) rfl rfl rfl)
  | 13, _, _ => leaf_ext (I7.ext rfl (f0_eq 5 31 32 rfl rfl (by omega) h0 h1) (fE_eq 5 5 32 31 32 rfl rfl rfl (by omega) h0 h1) (fE_eq 16 5 65536 31 32 rfl rfl rfl (by omega) h0 h1) (fE_eq 10 5 1024 31 32 rfl rfl rfl (by omega) h0 h1) rfl rfl)
  | 14, _, _ => leaf_ext (I7.ext rfl (f0_eq 5 31 32 rfl rfl (by omega) h0 h1) (fE_eq 5 5 32 31 32 rfl rfl rfl (by omega) h0 h1) (fE_eq 16 5 65536 31 32 rfl rfl rfl (by omega) h0 h1) (fE_eq 10 5 1024 31 32 rfl rfl rfl (by omega) h0 h1) rfl rfl)
  | 15, _, _ => leaf_ext (I7.ext rfl (f0_eq 5 31 32 rfl rfl (by omega) h0 h1) (fE_eq 5 5 32 31 32 rfl rfl rfl (by omega) h0 h1) (fE_eq 16 5 65536 31 32 rfl rfl rfl (by omega) h0 h1) rfl rfl rfl)
  | 16, _, _ => leaf_ext (I7.ext rfl (f0_eq 5 31 32 rfl rfl (by omega) h0 h1) (fE_eq 5 5 32 31 32 rfl rfl rfl (by omega) h0 h1) (fE_eq 16 5 65536 31 32 rfl rfl rfl (by omega) h0 h1) rfl rfl rfl)
  | 17, _, _ => leaf_ext (I7.ext rfl (f0_eq 5 31 32 rfl rfl (by omega) h0 h1) (fE_eq 5 5 32 31 32 rfl rfl rfl (by omega) h0 h1) (fE_eq 16 5 65536 31 32 rfl rfl rfl (by omega) h0 h1) rfl rfl rfl)
  | 18, _, _ => leaf_ext (I7.ext rfl (f0_eq 5 31 32 rfl rfl (by omega) h0 h1) (fE_eq 5 5 32 31 32 rfl rfl rfl (by omega) h0 h1) (fE_eq 16 5 65536 31 32 rfl rfl rfl (by omega) h0 h1) rfl rfl rfl)
  | 19, _, _ => leaf_ext (I7.ext rfl (f0_eq 5 31 32 rfl rfl (by omega) h0 h1) (fE_eq 5 5 32 31 32 rfl rfl rfl (by omega) h0 h1) (fE_eq 16 5 65536 31 32 rfl rfl rfl (by omega) h0 h1) rfl (fE_eq 12 4 4096 15 16 rfl rfl rfl (by omega) h0 h1) rfl)
  | 20, _, _ => by
    obtain ⟨e1, e2, e3⟩ := far_eq (y := w) 26 67108863 67108864 33554432 18446744073642442752 rfl rfl rfl rfl (by omega) (by omega) rfl h0 h1
    show Br (sgn0 w 67108863 33554432) _ _ = _
    rw [show sgn0 w 67108863 33554432 = _ from e1, Br_if]
    by_cases hx : w % 67108864 ≥ 33554432
    · rw [if_pos hx]; exact leaf_ext (I7.ext rfl rfl rfl rfl rfl rfl (e2 hx))
    · rw [if_neg hx]; exact leaf_ext (I7.ext rfl rfl rfl rfl rfl rfl (e3 hx))
  | 21, _, _ => by
    obtain ⟨e1, e2, e3⟩ := far_eq (y := w / 32) 19 524287 524288 262144 18446744073709027328 rfl rfl rfl rfl (by omega) (by omega) rfl (by omega) (by omega)
    have ef : w.fdiv 32 = w / 32 := Int.fdiv_eq_ediv_of_nonneg _ (by omega)
    rw [← ef] at e1 e2 e3
    show Br (sgn w 32 524287 262144) _ _ = _
    rw [show sgn w 32 524287 262144 = _ from e1, Br_if]
    by_cases hx : w.fdiv 32 % 524288 ≥ 262144
    · rw [if_pos hx]; exact leaf_ext (I7.ext rfl rfl rfl rfl rfl (f0_eq 4 15 16 rfl rfl (by omega) h0 h1) ((e2 hx).trans (by rw [ef]; rfl)))
    · rw [if_neg hx]; exact leaf_ext (I7.ext rfl rfl rfl rfl rfl (f0_eq 4 15 16 rfl rfl (by omega) h0 h1) ((e3 hx).trans (by rw [ef]; rfl)))
  | 22, _, _ => by
    obtain ⟨e1, e2, e3⟩ := far_eq (y := w / 32) 19 524287 524288 262144 18446744073709027328 rfl rfl rfl rfl (by omega) (by omega) rfl (by omega) (by omega)
    have ef : w.fdiv 32 = w / 32 := Int.fdiv_eq_ediv_of_nonneg _ (by omega)
    rw [← ef] at e1 e2 e3
    show Br (sgn w 32 524287 262144) _ _ = _
    rw [show sgn w 32 524287 262144 = _ from e1, Br_if]
    by_cases hx : w.fdiv 32 % 524288 ≥ 262144
    · rw [if_pos hx]; exact leaf_ext (I7.ext rfl (f0_eq 5 31 32 rfl rfl (by omega) h0 h1) rfl rfl rfl rfl ((e2 hx).trans (by rw [ef]; rfl)))
    · rw [if_neg hx]; exact leaf_ext (I7.ext rfl (f0_eq 5 31 32 rfl rfl (by omega) h0 h1) rfl rfl rfl rfl ((e3 hx).trans (by rw [ef]; rfl)))
  | 23, _, _ => by
    obtain ⟨e1, e2, e3⟩ := far_eq (y := w / 32) 19 524287 524288 262144 18446744073709027328 rfl rfl rfl rfl (by omega) (by omega) rfl (by omega) (by omega)
    have ef : w.fdiv 32 = w / 32 := Int.fdiv_eq_ediv_of_nonneg _ (by omega)
    rw [← ef] at e1 e2 e3
    show Br (sgn w 32 524287 262144) _ _ = _
    rw [show sgn w 32 524287 262144 = _ from e1, Br_if]
    by_cases hx : w.fdiv 32 % 524288 ≥ 262144
    · rw [if_pos hx]; exact leaf_ext (I7.ext rfl (f0_eq 5 31 32 rfl rfl (by omega) h0 h1) rfl rfl rfl rfl ((e2 hx).trans (by rw [ef]; rfl)))
    · rw [if_neg hx]; exact leaf_ext (I7.ext rfl (f0_eq 5 31 32 rfl rfl (by omega) h0 h1) rfl rfl rfl rfl ((e3 hx).trans (by rw [ef]; rfl)))
  | 24, _, _ => by
    obtain ⟨e1, e2, e3⟩ := far_eq (y := w) 26 67108863 67108864 33554432 18446744073642442752 rfl rfl rfl rfl (by omega) (by omega) rfl h0 h1
    show Br (sgn0 w 67108863 33554432) _ _ = _
    rw [show sgn0 w 67108863 33554432 = _ from e1, Br_if]
    by_cases hx : w % 67108864 ≥ 33554432
    · rw [if_pos hx]; exact leaf_ext (I7.ext rfl rfl rfl rfl rfl rfl (e2 hx))
    · rw [if_neg hx]; exact leaf_ext (I7.ext rfl rfl rfl rfl rfl rfl (e3 hx))
  | 25, _, _ => leaf_ext (I7.ext rfl rfl (fE_eq 5 5 32 31 32 rfl rfl rfl (by omega) h0 h1) rfl rfl rfl rfl)
  | 26, _, _ => leaf_ext (I7.ext rfl rfl (fE_eq 5 5 32 31 32 rfl rfl rfl (by omega) h0 h1) rfl rfl rfl rfl)
  | 27, _, _ => leaf_ext (I7.ext rfl rfl (fE_eq 5 5 32 31 32 rfl rfl rfl (by omega) h0 h1) rfl rfl rfl rfl)
  | 28, _, _ => leaf_ext (I7.ext rfl (f0_eq 5 31 32 rfl rfl (by omega) h0 h1) (fE_eq 5 5 32 31 32 rfl rfl rfl (by omega) h0 h1) rfl rfl rfl (by rw [fE_eq 10 12 1024 4095 4096 rfl rfl rfl (by omega) h0 h1, wrap_i64_in (n := 8 * (w / 1024 % 4096)) (by omega) (by omega)]; rfl))
  | 29, _, _ => leaf_ext (I7.ext rfl (f0_eq 5 31 32 rfl rfl (by omega) h0 h1) (fE_eq 5 5 32 31 32 rfl rfl rfl (by omega) h0 h1) rfl rfl rfl (by rw [fE_eq 10 12 1024 4095 4096 rfl rfl rfl (by omega) h0 h1, wrap_i64_in (n := 8 * (w / 1024 % 4096)) (by omega) (by omega)]; rfl))
  | 30, _, _ => leaf_ext (I7.ext rfl (f0_eq 5 31 32 rfl rfl (by omega) h0 h1) (fE_eq 5 5 32 31 32 rfl rfl rfl (by omega) h0 h1) rfl rfl rfl (fE_eq 10 12 1024 4095 4096 rfl rfl rfl (by omega) h0 h1))
  | 31, _, _ => leaf_ext (I7.ext rfl (f0_eq 5 31 32 rfl rfl (by omega) h0 h1) (fE_eq 5 5 32 31 32 rfl rfl rfl (by omega) h0 h1) (fE_eq 16 5 65536 31 32 rfl rfl rfl (by omega) h0 h1) rfl rfl rfl)
  | 32, _, _ => leaf_ext (I7.ext rfl (f0_eq 5 31 32 rfl rfl (by omega) h0 h1) (fE_eq 5 5 32 31 32 rfl rfl rfl (by omega) h0 h1) (fE_eq 16 5 65536 31 32 rfl rfl rfl (by omega) h0 h1) rfl rfl rfl)
  | 33, _, _ => leaf_ext (I7.ext rfl (f0_eq 5 31 32 rfl rfl (by omega) h0 h1) (fE_eq 5 5 32 31 32 rfl rfl rfl (by omega) h0 h1) rfl rfl rfl rfl)
  | 34, _, _ => leaf_ext (I7.ext rfl (f0_eq 5 31 32 rfl rfl (by omega) h0 h1) (fE_eq 5 5 32 31 32 rfl rfl rfl (by omega) h0 h1) rfl rfl rfl rfl)
  | 35, _, _ => leaf_ext (I7.ext rfl (f0_eq 5 31 32 rfl rfl (by omega) h0 h1) (fE_eq 5 5 32 31 32 rfl rfl rfl (by omega) h0 h1) rfl rfl rfl rfl)
  | 36, _, _ => leaf_ext (I7.ext rfl (fE_eq 16 5 65536 31 32 rfl rfl rfl (by omega) h0 h1) (fE_eq 5 5 32 31 32 rfl rfl rfl (by omega) h0 h1) (f0_eq 5 31 32 rfl rfl (by omega) h0 h1) rfl rfl rfl)
  | 37, _, _ => by
    have w0 : (⟨37, 0, 0, 0, 0, 0, 0⟩ : I7).ok ∧ (⟨37, 0, 0, 0, 0, 0, 0⟩ : I7).word = 3573758911 := ⟨by decide, by decide⟩
    have w1 : (⟨37, 0, 0, 0, 0, 0, 1⟩ : I7).ok ∧ (⟨37, 0, 0, 0, 0, 0, 1⟩ : I7).word = 3573758399 := ⟨by decide, by decide⟩
    have w2 : (⟨37, 0, 0, 0, 0, 0, 2⟩ : I7).ok ∧ (⟨37, 0, 0, 0, 0, 0, 2⟩ : I7).word = 3573758655 := ⟨by decide, by decide⟩
    have d0 : decF 37 3573758911 = ⟨37, 0, 0, 0, 0, 0, 0⟩ := rfl
    have d1 : decF 37 3573758399 = ⟨37, 0, 0, 0, 0, 0, 1⟩ := rfl
    have d2 : decF 37 3573758655 = ⟨37, 0, 0, 0, 0, 0, 2⟩ := rfl
    show leafN w _ _ (leafN w _ _ (leafN w _ _ N)) = _
    rw [leafN_eq, leafN_eq, leafN_eq]
    by_cases c0 : w = 3573758911
    · subst c0
      rw [d0, if_pos w0, if_pos w0]
    rw [if_neg (fun h => c0 (h.2.symm.trans w0.2))]
    by_cases c1 : w = 3573758399
    · subst c1
      rw [d1, if_pos w1, if_pos w1]
    rw [if_neg (fun h => c1 (h.2.symm.trans w1.2))]
    by_cases c2 : w = 3573758655
    · subst c2
      rw [d2, if_pos w2]
    rw [if_neg (fun h => c2 (h.2.symm.trans w2.2)), if_neg]
    rintro ⟨ha, hb⟩
    have hc : (decF 37 w).im = 0 ∨ (decF 37 w).im = 1 ∨ (decF 37 w).im = 2 := by
      obtain ⟨_, _, _, _, _, _, _, hi⟩ := ha
      have hi : 0 ≤ (decF 37 w).im ∧ (decF 37 w).im ≤ 2 := hi
      omega
    have e : ∀ q, (decF 37 w).im = q → decF 37 w = ⟨37, 0, 0, 0, 0, 0, q⟩ := fun q hq => I7.ext rfl rfl rfl rfl rfl rfl hq
    rcases hc with hc | hc | hc
    · rw [e _ hc, w0.2] at hb; exact c0 hb.symm
    · rw [e _ hc, w1.2] at hb; exact c1 hb.symm
    · rw [e _ hc, w2.2] at hb; exact c2 hb.symm
  | 38, _, _ => leaf_ext (I7.ext rfl rfl rfl rfl rfl rfl rfl)
  | 39, _, _ => leaf_ext (I7.ext rfl rfl rfl rfl rfl rfl rfl)
  | 40, _, _ => leaf_ext (I7.ext rfl rfl (f0_eq 5 31 32 rfl rfl (by omega) h0 h1) rfl rfl rfl rfl)
  | 41, _, _ => leaf_ext (I7.ext rfl rfl (f0_eq 5 31 32 rfl rfl (by omega) h0 h1) rfl rfl rfl rfl)
  | 42, _, _ => leaf_ext (I7.ext rfl rfl rfl rfl rfl rfl (fE_eq 5 16 32 65535 65536 rfl rfl rfl (by omega) h0 h1))
  | k + 43, _, h => absurd h (by omega)
theorem rins_call {w : Int} (h0 : 0 ≤ w) (h1 : w < 4294967296) : CallOk Try.prog 8 [.raw (.int .u32 w)] [] fun r _ => r = .ret (decI w).v := by
  refine CallOk.fnB names (by kernel_rfl) ?_
  refine CodeB.mono (K := bodyK False Try.prog (funcOf Try.prog 8) fun r _ => r = .ret (decI w).v) ?_ fun _ _ h => h
  refine evTo_ok ERW_ok names mixed (n := 60) (b := 0) (Z := fun st => gcSt 0 rlive st = RS w 1 z7) rp1 _ _ _ (fun st hz => ?_) ?_
  · refine CodeB.lop (by kernel_rfl) (LoopB.byE ERW_ok names mixed (N := 60) (fun k : Nat => RS w k z7) (fun k => 0 < k ∧ k ≤ 43 ∧ ∀ j, 0 < j → j < k → ¬ ((decF j w).ok ∧ (decF j w).word = w)) (fun k => 43 - k) rlive (fun k hk => ?_) st 1 (by have h := gc_tells 0 rlive st; rw [hz] at h; exact h) ⟨by omega, by omega, fun j a b => absurd a (by omega)⟩)
    obtain ⟨hk0, hk1, hj⟩ := hk
    by_cases h43 : k = 43
    · subst h43
      rw [rbody_43]
      show ctxK _ _ _ _ _ (.exit 0) _
      rw [rafter]
      refine CodeB.of (evG_ok ERW_ok names mixed (n := 60) ?_)
      have hp := rpost w fun r => r = .ret (decI w).v
      rw [hp, udfE_eq h0 h1]
      unfold decI
      rw [if_neg (fun h => hj _ (by omega) (kind_lt w) h.2)]
    · have hp := rbody_in w (RK 0 (fun k : Nat => RS w k z7) (fun k => 0 < k ∧ k ≤ 43 ∧ ∀ j, 0 < j → j < k → ¬ ((decF j w).ok ∧ (decF j w).word = w)) (fun k => 43 - k) k (ctxK Try.prog 0 rp1 (codeOf Try.prog 8) (bodyK False Try.prog (funcOf Try.prog 8) fun r _ => r = .ret (decI w).v))) k hk0 (by omega)
      rw [hp, rbody_eq h0 h1 _ _ k hk0 (by omega)]
      by_cases hc : (decF k w).ok ∧ (decF k w).word = w
      · rw [if_pos hc]
        show ctxK _ _ _ _ _ .ret _
        rw [rret w k (decF k w) fun r => r = .ret (decI w).v]
        have := dec_word hc.1 (by rw [decF_op k w (by omega)]; omega)
        rw [hc.2] at this
        rw [this]
      · rw [if_neg hc]
        refine RK.go (y := k + 1) rfl ⟨by omega, by omega, fun j a b => ?_⟩ (by omega)
        by_cases e : j = k
        · subst e; exact hc
        · exact hj j a (by omega)
  · have hp := rpre w (fun r _ => r = .ret (decI w).v) fun st => st = RS w 1 z7
    exact hp.mpr rfl
theorem rdecA_ok {E : Eh} (hE : EOk Try.prog E) : EOk Try.prog (addE 8 decA E) := by
  refine addE_ok hE fun args s a h hf => ?_
  unfold decA at h
  split at h
  · rename_i w
    cases h
    rcases hf with ⟨hb, _⟩ | ⟨_, hf⟩
    · have h2 := of_decide_eq_true hb
      exact ((rins_call h2.1 h2.2).anywhere (s := s) ⟨trivial, trivial⟩ (insV_bd ..)).mono fun r s' h3 => .inl ⟨hb, h3⟩
    · exact hf.elim
  · cases h
end Go.Proofs.Ytjoopjhimgdgdaa.isa
end
section
/- DecRows: the walk. -/
set_option linter.unusedVariables false
set_option linter.unusedSimpArgs false
set_option maxRecDepth 1000000
namespace Go.Proofs.Ytjoopjhimgdgdaa.decRows
open Go Go.Proofs Go.Proofs.YtjoopjhimgdgdaaRL Go.Proofs.Ytjoopjhimgdgdaa.isa
theorem rng3_ok {P : Program} {b : Nat} {g : Operand} {ps : Array Tmp} {asg body : Code} {n : Nat} {e : List (Nat × V)} {s : Sto} {K : Ex → St → Prop} {v : V} {f : FuncId} {first cap : List V} (hg : getT e g = some v) (hv : v.nf = .fn (.func f) first cap) (hf : Nat.blt f P.funcs.size = true)
    (h : CallOk P f (first ++ [.yld s.length] ++ cap) (s ++ [.lp e n ps asg body none]) fun r s2 => (∃ vr, r = .ret vr) ∧ ∃ e' n' ps' a' b' pend, s2[s.length]? = some (.lp e' n' ps' a' b' pend) ∧ ((pend = none ∧ K .normal ⟨n, e, s2.set s.length .no⟩) ∨ (∃ id, pend = some (.exit id) ∧ K (.exit id) ⟨n, e, s2.set s.length .no⟩))) :
    CodeB P b (.rangeFunc g ps asg body) ⟨n, e, s⟩ K := by
  refine CodeB.of (range_sound (R := Prop) (no := False) (T := fun p => p) (fun h => h) (C := fun f args s K => CallOk P f args s K) (fun f args s K h => CallOk.tg h) ?_)
  unfold rfL
  refine Wi.mk (a := v) hg ?_
  simp only [hv, hf, flA_eq]
  refine h.mono fun r s2 => ?_
  rintro ⟨⟨vr, rfl⟩, e', n', ps', a', b', pend, h1, h2⟩
  simp only [h1]
  rcases h2 with ⟨rfl, h2⟩ | ⟨id, rfl, h2⟩
  · exact h2
  · exact h2
def knG : List V → Option V
  | [] => some (bV true)
  | _ => none
noncomputable def EL : Eh := specE 6 knG (addE 7 decA (addE 8 decA (addE 14 bytesA noE)))
noncomputable abbrev cd : Code := codeOf Try.prog 5
noncomputable abbrev cu : Code := codeOf Try.prog 29
def p1 : List Nat := [0,0,0,0,0,1,0,2]
noncomputable def c1 : Code := subAt (p1.dropLast.dropLast.dropLast ++ [0]) cd
def p2 : List Nat := [0,1,0,2]
noncomputable def c2 : Code := subAt [0,0] c1
noncomputable def p3 : List Nat := pathTo 25 c2
noncomputable def c3 : Code := subAt (p3.dropLast.dropLast.dropLast ++ [0]) c2
noncomputable def q1 : List Nat := pathTo 1 cu
abbrev KB (K : V → Prop) : Ex → St → Prop := bodyK False Try.prog (funcOf Try.prog 5) (rK K)
def live1 : List Nat := [1,3,5,6,7,8,27]
def live2 : List Nat := [1,3,5,6,7,8,35]
def liveU : List Nat := [0,5,6,7]
noncomputable abbrev rc1 : Code := subAt p1 cd
noncomputable abbrev rc2 : Code := subAt p2 c1
abbrev fnAll : V := .fn (.func 29) [] [.ptr 5 0]
def tm1 (vb : V) : List (Nat × V) := [(1, vb), (3, .ptr 2 0), (5, .ptr 3 0), (6, .ptr 4 0), (7, fnAll), (8, .ptr 6 0), (27, fnAll)]
def tm2 (vb : V) : List (Nat × V) := [(1, vb), (3, .ptr 2 0), (5, .ptr 3 0), (6, .ptr 4 0), (7, fnAll), (8, .ptr 6 0), (35, fnAll)]
def sL (el eb : Ent) (vl : V) (stop k : Int) (r : Bool) : Sto := [el, eb, .own [vl] 33, .own [.raw (.int .i64 stop)] 3, .own [bV r] 4, .own [vl] 33, .own [.raw (.int .i64 k)] 3]
noncomputable def LP1 (vb : V) (pend : Option Code) : Ent := .lp (tm1 vb) 134 (rp rc1) (ra rc1) (rbd rc1) pend
noncomputable def LP2 (vb : V) (pend : Option Code) : Ent := .lp (tm2 vb) 134 (rp rc2) (ra rc2) (rbd rc2) pend
def SU (s : Sto) (n cap : Nat) (k : Int) : St := ⟨19, [(0, .yld 7), (5, .sle 0 1 0 n cap), (6, .raw (.int .i64 n)), (7, .raw (.int .i64 k))], s⟩
abbrev w1 (i : Int) : Int := IntKind.i64.wrap i
section
variable (g : Nat → Int) (n N cap : Nat) (t : TypeId) (eb : Ent) (vb : V) (stop : Int) (c k : Int)
abbrev elE : Ent := .arr .ro [.int .u32 g] N t
theorem rc1_eq : rc1 = .rangeFunc (.tmp 27) (rp rc1) (ra rc1) (rbd rc1) := by kernel_rfl
theorem rc2_eq : rc2 = .rangeFunc (.tmp 35) (rp rc2) (ra rc2) (rbd rc2) := by kernel_rfl
noncomputable abbrev s1 (pend : Option Code) (c : Int) : Sto := sL (elE g N t) eb (.sle 0 1 0 n cap) stop c false ++ [LP1 vb pend]
theorem u1_pre (K : Ex → St → Prop) (Z : St → Prop) : evTo Try.prog EL 40 8 (fun st => Z (keepS liveU st)) q1 cu ⟨(funcOf Try.prog 29).ntmps, zipArgs 0 [.yld 7, .ptr 5 0], s1 g n N cap t eb vb stop none c⟩ K = Z (SU (s1 g n N cap t eb vb stop none c) n cap 0) := by kernel_rfl
def u1M (g : Nat → Int) (n N : Nat) (stop c k : Int) (P BRK X : Prop) : Prop := Br (decide (k < (n : Nat))) (IX k n N (Br (decide (0 ≤ g (k.toNat + 0) ∧ g (k.toNat + 0) < 4294967296)) (Br (decide (w1 (c + 1) > stop)) BRK P) False)) X
theorem u1_round (K : Ex → St → Prop) : evG Try.prog EL 40 (lft (subAt q1 cu)) (SU (s1 g n N cap t eb vb stop none c) n cap k) (fun e st => K e (keepS liveU st)) =
    u1M g n N stop c k (K .normal (SU (s1 g n N cap t eb vb stop none (w1 (c + 1))) n cap (w1 (k + 1)))) (K .ret (SU (s1 g n N cap t eb vb stop (some (.exit 0)) (w1 (c + 1))) n cap k)) (K (.exit 0) (SU (s1 g n N cap t eb vb stop none c) n cap k)) := by kernel_rfl
theorem u_aft (K : Ex → St → Prop) (st : St) : ctxK Try.prog 8 q1 cu K (.exit 0) st = K .normal st := by kernel_rfl
theorem u_ret (K : Ex → St → Prop) (st : St) : ctxK Try.prog 8 q1 cu K .ret st = K .ret st := by kernel_rfl
theorem u_end (s : Sto) (K : Res → Sto → Prop) : bodyK False Try.prog (funcOf Try.prog 29) K .normal (SU s n cap k) = K (.ret (.tup [])) s := by kernel_rfl
theorem u_endR (s : Sto) (K : Res → Sto → Prop) : bodyK False Try.prog (funcOf Try.prog 29) K .ret (SU s n cap k) = K (.ret (.tup [])) s := by kernel_rfl
end
noncomputable abbrev body3 : Code := lft (subAt p3 c2)
noncomputable abbrev bd4 : Code := subAt [0,1,2,0] body3
noncomputable abbrev r26 : Code := rgt (rgt body3)
def lv : List Nat := [1,6,11,13,14]
def lv0 : List Nat := [1,6,11,13]
def s3 (el : Ent) (C : InsC) (q : Nat) (b : Nat → Int) (M : Nat) (u : TypeId) : Sto := [el, .arr .ro [.int .u8 b] M u, .own [bV false] 4, .no, .arr (.grow 3) C.cols q 25]
def S3 (el : Ent) (C : InsC) (q : Nat) (b : Nat → Int) (m M capb : Nat) (u : TypeId) (i : Int) : St := ⟨134, [(1, .sle 1 1 0 m capb), (6, .ptr 2 0), (11, .lse 4 3 7 0 q), (13, .raw (.int .i64 i))], s3 el C q b M u⟩
def S4 (el : Ent) (C : InsC) (q : Nat) (b : Nat → Int) (m M capb : Nat) (u : TypeId) (i w : Int) : St := ⟨134, [(1, .sle 1 1 0 m capb), (6, .ptr 2 0), (11, .lse 4 3 7 0 q), (13, .raw (.int .i64 i)), (14, .raw (.int .u32 w))], s3 el C q b M u⟩
section
variable (el : Ent) (C : InsC) (q : Nat) (b : Nat → Int) (m M capb : Nat) (u : TypeId) (i w : Int)
def wdL (b : Nat → Int) (i : Int) : Int := byt.or4 (b ((w1 (4 * i)).toNat + 0)) (b ((w1 (w1 (4 * i) + 1)).toNat + 0)) (b ((w1 (w1 (4 * i) + 2)).toNat + 0)) (b ((w1 (w1 (4 * i) + 3)).toNat + 0))
def b3M (P X : Prop) : Prop := Br (decide (i < (q : Nat))) (IX (w1 (4 * i)) m M (IX (w1 (w1 (4 * i) + 1)) m M (IX (w1 (w1 (4 * i) + 2)) m M (IX (w1 (w1 (4 * i) + 3)) m M P)))) X
theorem b3_pre (K : Ex → St → Prop) (Z : St → Prop) : evTo Try.prog EL 40 2 (fun st => Z (keepS lv st)) [0,1,2,0] body3 (S3 el C q b m M capb u i) (fun e st => K e (keepS lv0 st)) = b3M q m M i (Z (S4 el C q b m M capb u i (wdL b i))) (K (.exit 4) (S3 el C q b m M capb u i)) := by kernel_rfl
def sameI (C : InsC) (k : Nat) (j : I7) : Bool := C.op k == j.op && (C.d k == j.d && (C.n k == j.n && (C.m k == j.m && (C.a k == j.a && (C.c k == j.c && (C.im k == j.im && true))))))
theorem b3_cmp (K : Ex → St → Prop) : evG Try.prog EL 40 bd4 (S4 el C q b m M capb u i w) (fun e st => K e (keepS lv st)) =
    IX i q q (Br (decide (0 ≤ w ∧ w < 4294967296)) (Br (!sameI C (i.toNat + 0) (decI w)) (K .ret (S4 el C q b m M capb u i w)) (K .normal (S4 el C q b m M capb u i w))) False) := by kernel_rfl
theorem b3_nx (K : Ex → St → Prop) (st : St) : ctxK Try.prog 2 [0,1,2,0] body3 K .normal st = CodeB Try.prog 2 r26 st K := by kernel_rfl
theorem b3_inc (K : Ex → St → Prop) : evG Try.prog EL 40 r26 (S4 el C q b m M capb u i w) (fun e st => K e (keepS lv0 st)) = K .normal (S3 el C q b m M capb u (w1 (i + 1))) := by kernel_rfl
theorem aft3 (K : Ex → St → Prop) (st : St) : ctxK Try.prog 2 p3 c2 K (.exit 4) st = CodeB Try.prog 2 c3 st K := by kernel_rfl
theorem e3 (K : V → Prop) : evG Try.prog EL 40 c3 (S3 el C q b m M capb u i) (KB K) = K (bV true) := by kernel_rfl
end
end Go.Proofs.Ytjoopjhimgdgdaa.decRows
end
section
/- DecRows: the walk, second part. Printed by genlw2.py. -/
set_option linter.unusedVariables false
set_option linter.unusedSimpArgs false
set_option maxRecDepth 1000000
namespace Go.Proofs.Ytjoopjhimgdgdaa.decRows
open Go Go.Proofs Go.Proofs.YtjoopjhimgdgdaaRL Go.Proofs.Ytjoopjhimgdgdaa.isa
abbrev F : FuncId := 5
def SV (s : Sto) (n cap : Nat) (k : Int) : St := ⟨19, [(0, .yld 8), (5, .sle 0 1 0 n cap), (6, .raw (.int .i64 n)), (7, .raw (.int .i64 k))], s⟩
theorem aft1 (K : Ex → St → Prop) (st : St) : ctxK Try.prog 2 p1 cd K .normal st = CodeB Try.prog 2 c1 st K := by kernel_rfl
theorem aft1x (K : Ex → St → Prop) (st : St) : ctxK Try.prog 2 p1 cd K (.exit 0) st = CodeB Try.prog 2 c1 st K := by kernel_rfl
theorem aft2 (K : Ex → St → Prop) (st : St) : ctxK Try.prog 2 p2 c1 K .normal st = CodeB Try.prog 2 c2 st K := by kernel_rfl
theorem v_aft (K : Ex → St → Prop) (st : St) : ctxK Try.prog 9 q1 cu K (.exit 0) st = K .normal st := by kernel_rfl
theorem v_end (s : Sto) (n cap : Nat) (k : Int) (K : Res → Sto → Prop) : bodyK False Try.prog (funcOf Try.prog 29) K .normal (SV s n cap k) = K (.ret (.tup [])) s := by kernel_rfl
def sameW (g : Nat → Int) (k c : Nat) : Bool := (decI (g k)).op == (decI (g c)).op && ((decI (g k)).d == (decI (g c)).d && ((decI (g k)).n == (decI (g c)).n && ((decI (g k)).m == (decI (g c)).m && ((decI (g k)).a == (decI (g c)).a && ((decI (g k)).c == (decI (g c)).c && ((decI (g k)).im == (decI (g c)).im && true))))))
def u32 (w : Int) (P : Prop) : Prop := Br (decide (0 ≤ w ∧ w < 4294967296)) P False
def u2M (g : Nat → Int) (n N : Nat) (c k : Int) (P R X : Prop) : Prop := Br (decide (k < (n : Nat))) (IX k n N (u32 (g (k.toNat + 0)) (Br (k != c) R (Br (decide (c ≥ (n : Nat))) R (IX c n N (u32 (g (c.toNat + 0)) (Br (!sameW g (k.toNat + 0) (c.toNat + 0)) R P))))))) X
section
variable (g : Nat → Int) (n N cap : Nat) (t : TypeId) (eb : Ent) (vb : V) (stop : Int) (c k : Int)
theorem a1_eq (K : Ex → St → Prop) (Z : St → Prop) : evTo Try.prog EL 40 2 (fun st => Z (keepS live2 st)) p2 c1 ⟨134, tm1 vb, sL (elE g N t) eb (.sle 0 1 0 n cap) stop c false ++ [.no]⟩ K = Z ⟨134, tm2 vb, sL (elE g N t) eb (.sle 0 1 0 n cap) stop 0 false ++ [.no]⟩ := by kernel_rfl
noncomputable abbrev s2 (pend : Option Code) (c : Int) : Sto := sL (elE g N t) eb (.sle 0 1 0 n cap) stop c false ++ [.no, LP2 vb pend]
theorem u2_pre (K : Ex → St → Prop) (Z : St → Prop) : evTo Try.prog EL 40 9 (fun st => Z (keepS liveU st)) q1 cu ⟨(funcOf Try.prog 29).ntmps, zipArgs 0 [.yld 8, .ptr 5 0], s2 g n N cap t eb vb stop none c⟩ K = Z (SV (s2 g n N cap t eb vb stop none c) n cap 0) := by kernel_rfl
end
def lenM (m M : Nat) (K : V → Prop) (P : Prop) : Prop := Br (Nat.ble m M) (Br (Nat.ble m 1000000) (Br (Nat.beq m 0) False (Br ((m : Int).tmod 4 != 0) (Br ((m : Int).tmod 4 != 0) (K (bV true)) (K (bV false))) (Br ((m : Int).tmod 4 != 0) (K (bV false)) (Br (((m / 4 : Nat) : Int) != w1 ((m : Int).tdiv 4)) (K (bV false)) P)))) False) False
section
variable (g : Nat → Int) (n N cap : Nat) (t : TypeId) (b : Nat → Int) (m M capb : Nat) (u : TypeId) (stop : Int) (c k : Int)
theorem pre_N (K : V → Prop) (Z : St → Prop) : evTo Try.prog EL 100 2 (fun st => Z (keepS live1 st)) p1 cd ⟨(funcOf Try.prog F).ntmps, zipArgs 0 [.sle 0 1 0 n cap, (.sle 1 1 0 m capb), .raw (.int .i64 stop)], [elE g N t, (.arr .ro [.int .u8 b] M u)]⟩ (KB K) =
    Br (decide ((n : Int) > 200)) (K (bV true)) (Br (decide ((m : Int) > 800)) (K (bV true)) (Z ⟨134, tm1 (.sle 1 1 0 m capb), sL (elE g N t) (.arr .ro [.int .u8 b] M u) (.sle 0 1 0 n cap) stop 0 false⟩)) := by kernel_rfl
theorem u2_N (K : Ex → St → Prop) : evG Try.prog EL 40 (lft (subAt q1 cu)) (SV (s2 g n N cap t (.arr .ro [.int .u8 b] M u) (.sle 1 1 0 m capb) stop none c) n cap k) (fun e st => K e (gcSt 9 liveU st)) =
    u2M g n N c k (K .normal (SV (s2 g n N cap t (.arr .ro [.int .u8 b] M u) (.sle 1 1 0 m capb) stop none (w1 (c + 1))) n cap (w1 (k + 1)))) (K .ret (SV (s2 g n N cap t (.arr .ro [.int .u8 b] M u) (.sle 1 1 0 m capb) stop (some .ret) c) n cap k)) (K (.exit 0) (SV (s2 g n N cap t (.arr .ro [.int .u8 b] M u) (.sle 1 1 0 m capb) stop none c) n cap k)) := by kernel_rfl
theorem a2_N (K : V → Prop) (Z : St → Prop) : evTo Try.prog EL 40 2 (fun st => Z (gcSt 2 lv0 st)) p3 c2 ⟨134, tm2 (.sle 1 1 0 m capb), sL (elE g N t) (.arr .ro [.int .u8 b] M u) (.sle 0 1 0 n cap) stop c false ++ [.no, .no]⟩ (KB K) =
    Br (c != (n : Int)) (K (bV false)) (lenM m M K (Z (S3 (elE g N t) (insW (byt.wd b)) (m / 4) b m M capb u 0))) := by kernel_rfl
end
section
variable (g : Nat → Int) (n N cap : Nat) (t : TypeId) (p : Option Addr) (capb : Nat) (stop : Int) (c k : Int)
theorem pre_E (K : V → Prop) (Z : St → Prop) : evTo Try.prog EL 100 2 (fun st => Z (keepS live1 st)) p1 cd ⟨(funcOf Try.prog F).ntmps, zipArgs 0 [.sle 0 1 0 n cap, (.raw (.slice p 0 capb)), .raw (.int .i64 stop)], [elE g N t, .no]⟩ (KB K) =
    Br (decide ((n : Int) > 200)) (K (bV true)) ((Z ⟨134, tm1 (.raw (.slice p 0 capb)), sL (elE g N t) .no (.sle 0 1 0 n cap) stop 0 false⟩)) := by kernel_rfl
theorem u2_E (K : Ex → St → Prop) : evG Try.prog EL 40 (lft (subAt q1 cu)) (SV (s2 g n N cap t .no (.raw (.slice p 0 capb)) stop none c) n cap k) (fun e st => K e (gcSt 9 liveU st)) =
    u2M g n N c k (K .normal (SV (s2 g n N cap t .no (.raw (.slice p 0 capb)) stop none (w1 (c + 1))) n cap (w1 (k + 1)))) (K .ret (SV (s2 g n N cap t .no (.raw (.slice p 0 capb)) stop (some .ret) c) n cap k)) (K (.exit 0) (SV (s2 g n N cap t .no (.raw (.slice p 0 capb)) stop none c) n cap k)) := by kernel_rfl
theorem a2_E (K : V → Prop) : evG Try.prog EL 40 c2 ⟨134, tm2 (.raw (.slice p 0 capb)), sL (elE g N t) .no (.sle 0 1 0 n cap) stop c false ++ [.no, .no]⟩ (KB K) = Br (c != (n : Int)) (K (bV false)) (K (bV true)) := by kernel_rfl
end
section
variable (b : Nat → Int) (m M cap capb : Nat) (p p' : Option Addr) (u : TypeId) (stop : Int)
noncomputable def p13 : List Nat := pathTo 25 cd
theorem nil_N (K : V → Prop) (Z : St → Prop) : evTo Try.prog EL 100 2 (fun st => Z (gcSt 2 lv0 st)) p13 cd ⟨(funcOf Try.prog F).ntmps, zipArgs 0 [.raw (.slice p 0 cap), .sle 1 1 0 m capb, .raw (.int .i64 stop)], [.no, .arr .ro [.int .u8 b] M u]⟩ (KB K) =
    Br (decide ((m : Int) > 800)) (K (bV true)) (lenM m M K (Z (S3 .no (insW (byt.wd b)) (m / 4) b m M capb u 0))) := by kernel_rfl
theorem sub13 : subAt p13 cd = subAt p3 c2 := by kernel_rfl
theorem aft13 (K : Ex → St → Prop) (st : St) : ctxK Try.prog 2 p13 cd K (.exit 4) st = CodeB Try.prog 2 c3 st K := by kernel_rfl
theorem nil_E (K : V → Prop) : callG Try.prog EL 100 F [.raw (.slice p 0 cap), .raw (.slice p' 0 capb), .raw (.int .i64 stop)] [.no, .no] (rK K) = K (bV true) := by kernel_rfl
end
end Go.Proofs.Ytjoopjhimgdgdaa.decRows
end
