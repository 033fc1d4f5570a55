/- Parts of the proof, one behind the other. -/
import Derived.Test.YtllfmafebhifdaazWinBarriersIInT
import Derived.Test.YtllfmafebhifdaazWinBarriersRLX
import Derived.Test.YtllfmafebhifdaazWinBarriersIPlainC
section
/- formulas; printed by fm.py out of fm2.Ytllfmafebhifdaa.spec. -/
namespace Go.Proofs.Ytllfmafebhifdaa.contF
open Go Go.Proofs Go.Proofs.YtllfmafebhifdaaRL 
set_option linter.unusedVariables false
def c0_f (g : Nat → Int) (t : TypeId) (N cap : Nat) (x : Int) (K : V → Prop) : Prop :=
K (V.raw (Value.bool false))
set_option maxRecDepth 1000000 in
theorem c0_eq (g : Nat → Int) (t : TypeId) (N cap : Nat) (x : Int) (K : V → Prop) : callG Try.prog noE 100 25 [.sle 0 1 0 0 cap, .raw (.int .i64 x)] [.arr .ro [.int .i64 g] N t] (fun r _ => match r with | .ret v => K v | .pan _ => False) = c0_f g  t  N cap  x  K := by kernel_rfl
def c1_f (g : Nat → Int) (t : TypeId) (N cap : Nat) (x : Int) (K : V → Prop) : Prop :=
(match Nat.blt 0 N with
| true => (match x == g 0 with
 | true => K (V.raw (Value.bool true))
 | false => K (V.raw (Value.bool false)))
| false => False)
set_option maxRecDepth 1000000 in
theorem c1_eq (g : Nat → Int) (t : TypeId) (N cap : Nat) (x : Int) (K : V → Prop) : callG Try.prog noE 100 25 [.sle 0 1 0 1 cap, .raw (.int .i64 x)] [.arr .ro [.int .i64 g] N t] (fun r _ => match r with | .ret v => K v | .pan _ => False) = c1_f g  t  N cap  x  K := by kernel_rfl
def c2_f (g : Nat → Int) (t : TypeId) (N cap : Nat) (x : Int) (K : V → Prop) : Prop :=
(match Nat.blt 0 N with
| true => (match x == g 0 with
 | true => K (V.raw (Value.bool true))
 | false => (match Nat.blt 1 N with
  | true => (match x == g 1 with
   | true => K (V.raw (Value.bool true))
   | false => K (V.raw (Value.bool false)))
  | false => False))
| false => False)
set_option maxRecDepth 1000000 in
theorem c2_eq (g : Nat → Int) (t : TypeId) (N cap : Nat) (x : Int) (K : V → Prop) : callG Try.prog noE 100 25 [.sle 0 1 0 2 cap, .raw (.int .i64 x)] [.arr .ro [.int .i64 g] N t] (fun r _ => match r with | .ret v => K v | .pan _ => False) = c2_f g  t  N cap  x  K := by kernel_rfl
def c3_f (g : Nat → Int) (t : TypeId) (N cap : Nat) (x : Int) (K : V → Prop) : Prop :=
(match Nat.blt 0 N with
| true => (match x == g 0 with
 | true => K (V.raw (Value.bool true))
 | false => (match Nat.blt 1 N with
  | true => (match x == g 1 with
   | true => K (V.raw (Value.bool true))
   | false => (match Nat.blt 2 N with
    | true => (match x == g 2 with
     | true => K (V.raw (Value.bool true))
     | false => K (V.raw (Value.bool false)))
    | false => False))
  | false => False))
| false => False)
set_option maxRecDepth 1000000 in
theorem c3_eq (g : Nat → Int) (t : TypeId) (N cap : Nat) (x : Int) (K : V → Prop) : callG Try.prog noE 100 25 [.sle 0 1 0 3 cap, .raw (.int .i64 x)] [.arr .ro [.int .i64 g] N t] (fun r _ => match r with | .ret v => K v | .pan _ => False) = c3_f g  t  N cap  x  K := by kernel_rfl
def cn_f (x : Int) (K : V → Prop) : Prop :=
K (V.raw (Value.bool false))
set_option maxRecDepth 1000000 in
theorem cn_eq (x : Int) (K : V → Prop) : callG Try.prog noE 100 25 [.raw (.slice none 0 0), .raw (.int .i64 x)] [] (fun r _ => match r with | .ret v => K v | .pan _ => False) = cn_f x  K := by kernel_rfl
end Go.Proofs.Ytllfmafebhifdaa.contF
end
section
/- slices.Contains of at most three, as a table's line. -/
set_option linter.unusedVariables false
set_option linter.unusedSimpArgs false
set_option maxRecDepth 100000
namespace Go.Proofs.Ytllfmafebhifdaa.win
open Go Go.Proofs Go.Proofs.YtllfmafebhifdaaRL Go.Proofs.Ytllfmafebhifdaa.isa Go.Proofs.Ytllfmafebhifdaa.contF
def hasG (g : Nat → Int) (n : Nat) (x : Int) : Bool := ((List.range n).map g).any fun y => x == y
abbrev rK (K : V → Prop) : Res → Sto → Prop := fun r _ => match r with | .ret v => K v | .pan _ => False
theorem rK_ok {u : V} : ∀ (r : Res) (s : Sto), rK (fun v => v = u) r s → r = .ret u
  | .ret v, s, h => congrArg Res.ret h
  | .pan v, s, h => h.elim
theorem blt_lt {a b : Nat} (h : a < b) : Nat.blt a b = true := by rw [Nat.blt_eq]; exact h
theorem cont_ok (g : Nat → Int) (t : TypeId) (N cap : Nat) (x : Int) : ∀ n, n ≤ N → n < 4 → CallOk Try.prog 25 [.sle 0 1 0 n cap, .raw (.int .i64 x)] [.arr .ro [.int .i64 g] N t] fun r _ => r = .ret (.raw (.bool (hasG g n x)))
  | 0, _, _ => by
    refine (callG_ok noE_ok names mixed (n := 100) (K := rK fun v => v = .raw (.bool (hasG g 0 x))) ?_).mono rK_ok
    have hp := c0_eq g t N cap x fun v => v = .raw (.bool (hasG g 0 x))
    exact hp.mpr rfl
  | 1, h, _ => by
    refine (callG_ok noE_ok names mixed (n := 100) (K := rK fun v => v = .raw (.bool (hasG g 1 x))) ?_).mono rK_ok
    have hp := c1_eq g t N cap x fun v => v = .raw (.bool (hasG g 1 x))
    refine hp.mpr ?_
    have e : hasG g 1 x = ((x == g 0) || false) := rfl
    unfold c1_f
    rw [e, blt_lt (show 0 < N by omega)]
    cases x == g 0 <;> rfl
  | 2, h, _ => by
    refine (callG_ok noE_ok names mixed (n := 100) (K := rK fun v => v = .raw (.bool (hasG g 2 x))) ?_).mono rK_ok
    have hp := c2_eq g t N cap x fun v => v = .raw (.bool (hasG g 2 x))
    refine hp.mpr ?_
    have e : hasG g 2 x = ((x == g 0) || ((x == g 1) || false)) := rfl
    unfold c2_f
    rw [e, blt_lt (show 0 < N by omega), blt_lt (show 1 < N by omega)]
    cases x == g 0 <;> cases x == g 1 <;> rfl
  | 3, h, _ => by
    refine (callG_ok noE_ok names mixed (n := 100) (K := rK fun v => v = .raw (.bool (hasG g 3 x))) ?_).mono rK_ok
    have hp := c3_eq g t N cap x fun v => v = .raw (.bool (hasG g 3 x))
    refine hp.mpr ?_
    have e : hasG g 3 x = ((x == g 0) || ((x == g 1) || ((x == g 2) || false))) := rfl
    unfold c3_f
    rw [e, blt_lt (show 0 < N by omega), blt_lt (show 1 < N by omega), blt_lt (show 2 < N by omega)]
    cases x == g 0 <;> cases x == g 1 <;> cases x == g 2 <;> rfl
  | n + 4, _, h => absurd h (by omega)
def contA : List V → Sto → Option Ans
  | [.raw (.slice none 0 0), .raw (.int .i64 x)], s => some (.one (.ret (.raw (.bool false))) s)
  | [.lse i k 1 0 n, .raw (.int .i64 x)], s => match s[i]? with
    | some (.arr m [.int .i64 g] N t) => some (.br (Nat.blt n 4) (.br (Nat.ble n N) (.one (.ret (.raw (.bool (hasG g n x)))) s) .no) .no)
    | _ => none
  | _, _ => none
theorem contA_ok {E : Eh} (hE : EOk Try.prog E) : EOk Try.prog (addE 25 contA E) := by
  refine addE_ok hE fun args s a h hf => ?_
  unfold contA at h
  split at h
  · rename_i x
    cases h
    refine CallOk.anywhere ?_ ⟨trivial, trivial, trivial⟩ trivial
    refine (callG_ok noE_ok names mixed (n := 100) (K := rK fun v => v = .raw (.bool false)) ?_).mono rK_ok
    have hp := cn_eq x fun v => v = .raw (.bool false)
    exact hp.mpr rfl
  · split at h
    · rename_i i k n x _ m g N t hi
      cases h
      rcases hf with ⟨h1, hf⟩ | ⟨_, hf⟩
      · rcases hf with ⟨h2, _⟩ | ⟨_, hf⟩
        · rw [Nat.blt_eq] at h1
          have h2' := Nat.le_of_ble_eq_true h2
          refine CallOk.mono (K := fun r s' => r = .ret (.raw (.bool (hasG g n x))) ∧ s' = s) ?_ fun r s' h => .inl ⟨by rw [Nat.blt_eq]; exact h1, .inl ⟨h2, h⟩⟩
          exact CallOk.lse1 (a := []) fun cap => CallOk.reads1 (args0 := [.sle 0 1 0 n cap, .raw (.int .i64 x)]) hi ⟨Nat.zero_lt_one, trivial, trivial⟩ trivial (cont_ok g t N cap x n h2' h1)
        · exact hf.elim
      · exact hf.elim
    · cases h
  · cases h
end Go.Proofs.Ytllfmafebhifdaa.win
end
section
/- Chapter 9: get, let as tables' lines; windows by columns. -/
set_option linter.unusedVariables false
set_option linter.unusedSimpArgs false
set_option maxRecDepth 100000
namespace Go.Proofs.Ytllfmafebhifdaa.win
open Go Go.Proofs Go.Proofs.YtllfmafebhifdaaRL Go.Proofs.Ytllfmafebhifdaa.isa
def fl4 (zf nf cf vf : Bool) : Int := (match zf with | true => 1 | false => 0) + ((match nf with | true => 2 | false => 0) + ((match cf with | true => 4 | false => 0) + (match vf with | true => 8 | false => 0)))
def getW (x : Nat → Int) (nf zf cf vf : Bool) (n : Int) : Int := if n = 33 then fl4 zf nf cf vf else getX x n
theorem get_eq (x : Nat → Int) (nf zf cf vf : Bool) (n : Int) (K : V → Prop) : callG Try.prog EDo 100 27 [regs x nf zf cf vf, .raw (.int .i64 n)] [] (rK K) =
    Br (n == 33) (Br zf (Br nf (Br cf (Br vf (K (.raw (.int .u64 15))) (K (.raw (.int .u64 7)))) (Br vf (K (.raw (.int .u64 11))) (K (.raw (.int .u64 3))))) (Br cf (Br vf (K (.raw (.int .u64 13))) (K (.raw (.int .u64 5)))) (Br vf (K (.raw (.int .u64 9))) (K (.raw (.int .u64 1))))))
      (Br nf (Br cf (Br vf (K (.raw (.int .u64 14))) (K (.raw (.int .u64 6)))) (Br vf (K (.raw (.int .u64 10))) (K (.raw (.int .u64 2))))) (Br cf (Br vf (K (.raw (.int .u64 12))) (K (.raw (.int .u64 4)))) (Br vf (K (.raw (.int .u64 8))) (K (.raw (.int .u64 0)))))))
      (K (.raw (.int .u64 (getX (norm x) n)))) := by kernel_rfl
theorem get_ok (x : Nat → Int) (nf zf cf vf : Bool) (n : Int) : CallOk Try.prog 27 [regs x nf zf cf vf, .raw (.int .i64 n)] [] fun r _ => r = .ret (.raw (.int .u64 (getW x nf zf cf vf n))) := by
  refine (callG_ok EDo_ok names mixed (n := 100) (K := rK fun v => v = .raw (.int .u64 (getW x nf zf cf vf n))) ?_).mono rK_ok
  have hp := get_eq x nf zf cf vf n fun v => v = .raw (.int .u64 (getW x nf zf cf vf n))
  refine hp.mpr ?_
  unfold getW
  by_cases h : n = 33
  · rw [if_pos h, beq_iff_eq.2 h]
    cases zf <;> cases nf <;> cases cf <;> cases vf <;> rfl
  · rw [if_neg h, beq_eq_false_iff_ne.2 h, norm_get]; rfl
structure RegsF where
  x : Nat → Int
  nf : Bool
  zf : Bool
  cf : Bool
  vf : Bool
def RegsF.v (r : RegsF) : V := regs r.x r.nf r.zf r.cf r.vf
def bitV (v k : Int) : Bool := Go.bits .and .u64 v k != 0
def letW (r : RegsF) (n v : Int) : RegsF := if n = 33 then ⟨r.x, bitV v 2, bitV v 1, bitV v 4, bitV v 8⟩ else ⟨setX r.x n v, r.nf, r.zf, r.cf, r.vf⟩
theorem let_eq (x : Nat → Int) (nf zf cf vf : Bool) (n v : Int) (K : V → Prop) : callG Try.prog EDo 100 37 [regs x nf zf cf vf, .raw (.int .i64 n), .raw (.int .u64 v)] [] (rK K) =
    Br (n != 33) (K (regs (setX (norm x) n v) nf zf cf vf)) (K (regs x (bitV v 2) (bitV v 1) (bitV v 4) (bitV v 8))) := by kernel_rfl
theorem regs_set (x : Nat → Int) (n v : Int) (nf zf cf vf : Bool) : regs (setX (norm x) n v) nf zf cf vf = regs (setX x n v) nf zf cf vf := by
  unfold regs
  rw [nums_congr (x := setX (norm x) n v) (y := setX x n v) fun i hi => by unfold setX; rw [norm_at hi]]
theorem let_ok (r : RegsF) (n v : Int) : CallOk Try.prog 37 [r.v, .raw (.int .i64 n), .raw (.int .u64 v)] [] fun q _ => q = .ret (letW r n v).v := by
  obtain ⟨x, nf, zf, cf, vf⟩ := r
  refine (callG_ok EDo_ok names mixed (n := 100) (K := rK fun u => u = (letW ⟨x, nf, zf, cf, vf⟩ n v).v) ?_).mono rK_ok
  have hp := let_eq x nf zf cf vf n v fun u => u = (letW ⟨x, nf, zf, cf, vf⟩ n v).v
  refine hp.mpr ?_
  unfold letW
  by_cases h : n = 33
  · rw [if_pos h, show (n != 33) = false by rw [h]; rfl]; rfl
  · rw [if_neg h, show (n != 33) = true from bne_iff_ne.2 h]
    exact regs_set ..
def getWG : List V → Option V
  | [r, .raw (.int .i64 n)] => match readRegs r with
    | some (x, nf, zf, cf, vf) => some (.raw (.int .u64 (getW x nf zf cf vf n)))
    | none => none
  | _ => none
def letWG : List V → Option V
  | [r, .raw (.int .i64 n), .raw (.int .u64 v)] => match readRegs r with
    | some (x, nf, zf, cf, vf) => some (letW ⟨x, nf, zf, cf, vf⟩ n v).v
    | none => none
  | _ => none
theorem getWG_ok {E : Eh} (hE : EOk Try.prog E) : EOk Try.prog (specE 27 getWG E) := by
  refine specE_ok hE fun args v h => ?_
  unfold getWG at h
  split at h
  · split at h
    · rename_i hq
      cases h
      rw [readRegs_eq hq]
      exact ⟨⟨bd_regs .., trivial, trivial⟩, trivial, get_ok ..⟩
    · cases h
  · cases h
theorem letWG_ok {E : Eh} (hE : EOk Try.prog E) : EOk Try.prog (specE 37 letWG E) := by
  refine specE_ok hE fun args v h => ?_
  unfold letWG at h
  split at h
  · split at h
    · rename_i x nf zf cf vf hq
      cases h
      rw [readRegs_eq hq]
      exact ⟨⟨bd_regs .., trivial, trivial, trivial⟩, bd_regs .., let_ok ⟨x, nf, zf, cf, vf⟩ _ _⟩
    · cases h
  · cases h
/-- A window by columns. -/
structure WinC where
  pc : Nat → Int
  op : Nat → Int
  d : Nat → Int
  n : Nat → Int
  m : Nat → Int
  a : Nat → Int
  c : Nat → Int
  im : Nat → Int
  next : Nat → Int
  done : Nat → Bool
  x : Nat → Nat → Int
  nf : Nat → Bool
  zf : Nat → Bool
  cf : Nat → Bool
  vf : Nat → Bool
def WinC.cols (W : WinC) : List Col := [.int .u64 W.pc, .int .i64 W.op, .int .i64 W.d, .int .i64 W.n, .int .i64 W.m, .int .i64 W.a, .int .i64 W.c, .int .i64 W.im, .int .u64 W.next, .bool W.done] ++ ((List.range 32).map fun i => .int .u64 (W.x i)) ++ [.bool W.nf, .bool W.zf, .bool W.cf, .bool W.vf]
def WinC.chk (W : WinC) (j : Nat) : Int := chkV (W.op j) (W.d j) (W.n j) (W.m j) (W.a j) (W.c j) (W.im j)
def WinC.out (W : WinC) (j : Nat) : List Int := if W.chk j = 0 then plainL (outRaw (W.d j) (W.op j).toNat) else []
def WinC.inn (W : WinC) (j : Nat) : List Int := if W.chk j = 0 then plainL (inRaw (W.d j) (W.n j) (W.m j) (W.a j) (W.op j).toNat) else []
def WinC.regs (W : WinC) (j : Nat) : RegsF := ⟨fun i => W.x i j, W.nf j, W.zf j, W.cf j, W.vf j⟩
def RegsF.get (r : RegsF) (n : Int) : Int := getW r.x r.nf r.zf r.cf r.vf n
/-- Who writes a register, looked for backwards. -/
def WinC.back (W : WinC) (base : RegsF) (reg : Int) : Nat → Int × Bool
  | 0 => (base.get reg, true)
  | j + 1 => if (W.out j).any (reg == ·) then (if W.done j then ((W.regs j).get reg, true) else (0, false)) else W.back base reg j
def WinC.val (W : WinC) (n : Nat) (i : Int) (base : RegsF) (reg : Int) : Int × Bool := if 0 ≤ i ∧ i < n then (if reg = 31 then (0, true) else W.back base reg i.toNat) else (0, false)
end Go.Proofs.Ytllfmafebhifdaa.win
end
section
/- formulas; printed by fm.py out of fm2.Ytllfmafebhifdaa.spec. -/
namespace Go.Proofs.Ytllfmafebhifdaa.valF
open Go Go.Proofs Go.Proofs.YtllfmafebhifdaaRL  Go.Proofs.Ytllfmafebhifdaa.isa Go.Proofs.Ytllfmafebhifdaa.win
set_option linter.unusedVariables false
noncomputable def EV : Eh := addE 26 ouA (addE 25 contA (specE 27 getWG noE))
def live : List Nat := [0,3,6,8,9,10]
noncomputable def p1 : List Nat := pathTo 6 (codeOf Try.prog 10)
noncomputable def c1 : Code := subAt (p1.dropLast.dropLast.dropLast ++ [0]) (codeOf Try.prog 10)
def SV (W : WinC) (n N cap : Nat) (t : TypeId) (reg : Int) (r : RegsF) (q : Int) : St := ⟨47, [(0, .sle 0 46 0 n cap), (3, .raw (.int .i64 reg)), (6, .ptr 1 0), (8, .raw (.int .u64 0)), (9, .raw (.bool false)), (10, .raw (.int .i64 q))], [.arr .ro W.cols N t, .own (numsV .u64 r.x 32 ++ [.raw (.bool r.nf), .raw (.bool r.zf), .raw (.bool r.cf), .raw (.bool r.vf)]) 26]⟩

def pre_f (W : WinC) (n N cap : Nat) (t : TypeId) (i reg : Int) (r : RegsF) (K : V → Prop) (Z : St → Prop) : Prop :=
(match decide (i ≥ 0) with
| true => (match !decide (i < (↑n : Int)) with
 | true => K (V.tup [V.raw (Value.int IntKind.u64 0), V.raw (Value.bool false)])
 | false => (match reg == 31 with
  | true => K (V.tup [V.raw (Value.int IntKind.u64 0), V.raw (Value.bool true)])
  | false => Z (St.mk 47 [(0, V.sle 0 46 0 n cap), (3, V.raw (Value.int IntKind.i64 reg)), (6, V.ptr 1 0), (8, V.raw (Value.int IntKind.u64 0)), (9, V.raw (Value.bool false)), (10, V.raw (Value.int IntKind.i64 (IntKind.i64.wrap (i - 1))))] [Ent.arr AM.ro [Col.int IntKind.u64 W.pc, Col.int IntKind.i64 W.op, Col.int IntKind.i64 W.d, Col.int IntKind.i64 W.n, Col.int IntKind.i64 W.m, Col.int IntKind.i64 W.a, Col.int IntKind.i64 W.c, Col.int IntKind.i64 W.im, Col.int IntKind.u64 W.next, Col.bool W.done, Col.int IntKind.u64 (W.x 0), Col.int IntKind.u64 (W.x 1), Col.int IntKind.u64 (W.x 2), Col.int IntKind.u64 (W.x 3), Col.int IntKind.u64 (W.x 4), Col.int IntKind.u64 (W.x 5), Col.int IntKind.u64 (W.x 6), Col.int IntKind.u64 (W.x 7), Col.int IntKind.u64 (W.x 8), Col.int IntKind.u64 (W.x 9), Col.int IntKind.u64 (W.x 10), Col.int IntKind.u64 (W.x 11), Col.int IntKind.u64 (W.x 12), Col.int IntKind.u64 (W.x 13), Col.int IntKind.u64 (W.x 14), Col.int IntKind.u64 (W.x 15), Col.int IntKind.u64 (W.x 16), Col.int IntKind.u64 (W.x 17), Col.int IntKind.u64 (W.x 18), Col.int IntKind.u64 (W.x 19), Col.int IntKind.u64 (W.x 20), Col.int IntKind.u64 (W.x 21), Col.int IntKind.u64 (W.x 22), Col.int IntKind.u64 (W.x 23), Col.int IntKind.u64 (W.x 24), Col.int IntKind.u64 (W.x 25), Col.int IntKind.u64 (W.x 26), Col.int IntKind.u64 (W.x 27), Col.int IntKind.u64 (W.x 28), Col.int IntKind.u64 (W.x 29), Col.int IntKind.u64 (W.x 30), Col.int IntKind.u64 (W.x 31), Col.bool W.nf, Col.bool W.zf, Col.bool W.cf, Col.bool W.vf] N t, Ent.own [V.raw (Value.int IntKind.u64 (r.x 0)), V.raw (Value.int IntKind.u64 (r.x 1)), V.raw (Value.int IntKind.u64 (r.x 2)), V.raw (Value.int IntKind.u64 (r.x 3)), V.raw (Value.int IntKind.u64 (r.x 4)), V.raw (Value.int IntKind.u64 (r.x 5)), V.raw (Value.int IntKind.u64 (r.x 6)), V.raw (Value.int IntKind.u64 (r.x 7)), V.raw (Value.int IntKind.u64 (r.x 8)), V.raw (Value.int IntKind.u64 (r.x 9)), V.raw (Value.int IntKind.u64 (r.x 10)), V.raw (Value.int IntKind.u64 (r.x 11)), V.raw (Value.int IntKind.u64 (r.x 12)), V.raw (Value.int IntKind.u64 (r.x 13)), V.raw (Value.int IntKind.u64 (r.x 14)), V.raw (Value.int IntKind.u64 (r.x 15)), V.raw (Value.int IntKind.u64 (r.x 16)), V.raw (Value.int IntKind.u64 (r.x 17)), V.raw (Value.int IntKind.u64 (r.x 18)), V.raw (Value.int IntKind.u64 (r.x 19)), V.raw (Value.int IntKind.u64 (r.x 20)), V.raw (Value.int IntKind.u64 (r.x 21)), V.raw (Value.int IntKind.u64 (r.x 22)), V.raw (Value.int IntKind.u64 (r.x 23)), V.raw (Value.int IntKind.u64 (r.x 24)), V.raw (Value.int IntKind.u64 (r.x 25)), V.raw (Value.int IntKind.u64 (r.x 26)), V.raw (Value.int IntKind.u64 (r.x 27)), V.raw (Value.int IntKind.u64 (r.x 28)), V.raw (Value.int IntKind.u64 (r.x 29)), V.raw (Value.int IntKind.u64 (r.x 30)), V.raw (Value.int IntKind.u64 (r.x 31)), V.raw (Value.bool r.nf), V.raw (Value.bool r.zf), V.raw (Value.bool r.cf), V.raw (Value.bool r.vf)] 26])))
| false => K (V.tup [V.raw (Value.int IntKind.u64 0), V.raw (Value.bool false)]))
set_option maxRecDepth 1000000 in
theorem pre_eq (W : WinC) (n N cap : Nat) (t : TypeId) (i reg : Int) (r : RegsF) (K : V → Prop) (Z : St → Prop) : evTo Try.prog EV 40 1 (fun st => Z (gcSt 1 live st)) p1 (codeOf Try.prog 10) ⟨(funcOf Try.prog 10).ntmps, zipArgs 0 [.sle 0 46 0 n cap, .raw (.int .i64 i), r.v, .raw (.int .i64 reg)], [.arr .ro W.cols N t]⟩ (bodyK False Try.prog (funcOf Try.prog 10) (rK K)) = pre_f W  n N cap  t  i reg  r  K  Z := by kernel_rfl
def body_f (W : WinC) (n N cap : Nat) (t : TypeId) (reg : Int) (r : RegsF) (q : Int) (K : Ex → St → Prop) : Prop :=
(match decide (q ≥ 0) with
| true => (match decide (0 ≤ q) with
 | true => (match decide (q < (↑n : Int)) with
  | true => (match (q.toNat + 0).blt N with
   | true => (match chkV (W.op (q.toNat + 0)) (W.d (q.toNat + 0)) (W.n (q.toNat + 0)) (W.m (q.toNat + 0)) (W.a (q.toNat + 0)) (W.c (q.toNat + 0)) (W.im (q.toNat + 0)) != 0 || (outRaw (W.d (q.toNat + 0)) (W.op (q.toNat + 0)).toNat).isEmpty with
    | true => K Ex.normal (St.mk 47 [(0, V.sle 0 46 0 n cap), (3, V.raw (Value.int IntKind.i64 reg)), (6, V.ptr 1 0), (8, V.raw (Value.int IntKind.u64 0)), (9, V.raw (Value.bool false)), (10, V.raw (Value.int IntKind.i64 (IntKind.i64.wrap (q - 1))))] [Ent.arr AM.ro [Col.int IntKind.u64 W.pc, Col.int IntKind.i64 W.op, Col.int IntKind.i64 W.d, Col.int IntKind.i64 W.n, Col.int IntKind.i64 W.m, Col.int IntKind.i64 W.a, Col.int IntKind.i64 W.c, Col.int IntKind.i64 W.im, Col.int IntKind.u64 W.next, Col.bool W.done, Col.int IntKind.u64 (W.x 0), Col.int IntKind.u64 (W.x 1), Col.int IntKind.u64 (W.x 2), Col.int IntKind.u64 (W.x 3), Col.int IntKind.u64 (W.x 4), Col.int IntKind.u64 (W.x 5), Col.int IntKind.u64 (W.x 6), Col.int IntKind.u64 (W.x 7), Col.int IntKind.u64 (W.x 8), Col.int IntKind.u64 (W.x 9), Col.int IntKind.u64 (W.x 10), Col.int IntKind.u64 (W.x 11), Col.int IntKind.u64 (W.x 12), Col.int IntKind.u64 (W.x 13), Col.int IntKind.u64 (W.x 14), Col.int IntKind.u64 (W.x 15), Col.int IntKind.u64 (W.x 16), Col.int IntKind.u64 (W.x 17), Col.int IntKind.u64 (W.x 18), Col.int IntKind.u64 (W.x 19), Col.int IntKind.u64 (W.x 20), Col.int IntKind.u64 (W.x 21), Col.int IntKind.u64 (W.x 22), Col.int IntKind.u64 (W.x 23), Col.int IntKind.u64 (W.x 24), Col.int IntKind.u64 (W.x 25), Col.int IntKind.u64 (W.x 26), Col.int IntKind.u64 (W.x 27), Col.int IntKind.u64 (W.x 28), Col.int IntKind.u64 (W.x 29), Col.int IntKind.u64 (W.x 30), Col.int IntKind.u64 (W.x 31), Col.bool W.nf, Col.bool W.zf, Col.bool W.cf, Col.bool W.vf] N t, Ent.own [V.raw (Value.int IntKind.u64 (r.x 0)), V.raw (Value.int IntKind.u64 (r.x 1)), V.raw (Value.int IntKind.u64 (r.x 2)), V.raw (Value.int IntKind.u64 (r.x 3)), V.raw (Value.int IntKind.u64 (r.x 4)), V.raw (Value.int IntKind.u64 (r.x 5)), V.raw (Value.int IntKind.u64 (r.x 6)), V.raw (Value.int IntKind.u64 (r.x 7)), V.raw (Value.int IntKind.u64 (r.x 8)), V.raw (Value.int IntKind.u64 (r.x 9)), V.raw (Value.int IntKind.u64 (r.x 10)), V.raw (Value.int IntKind.u64 (r.x 11)), V.raw (Value.int IntKind.u64 (r.x 12)), V.raw (Value.int IntKind.u64 (r.x 13)), V.raw (Value.int IntKind.u64 (r.x 14)), V.raw (Value.int IntKind.u64 (r.x 15)), V.raw (Value.int IntKind.u64 (r.x 16)), V.raw (Value.int IntKind.u64 (r.x 17)), V.raw (Value.int IntKind.u64 (r.x 18)), V.raw (Value.int IntKind.u64 (r.x 19)), V.raw (Value.int IntKind.u64 (r.x 20)), V.raw (Value.int IntKind.u64 (r.x 21)), V.raw (Value.int IntKind.u64 (r.x 22)), V.raw (Value.int IntKind.u64 (r.x 23)), V.raw (Value.int IntKind.u64 (r.x 24)), V.raw (Value.int IntKind.u64 (r.x 25)), V.raw (Value.int IntKind.u64 (r.x 26)), V.raw (Value.int IntKind.u64 (r.x 27)), V.raw (Value.int IntKind.u64 (r.x 28)), V.raw (Value.int IntKind.u64 (r.x 29)), V.raw (Value.int IntKind.u64 (r.x 30)), V.raw (Value.int IntKind.u64 (r.x 31)), V.raw (Value.bool r.nf), V.raw (Value.bool r.zf), V.raw (Value.bool r.cf), V.raw (Value.bool r.vf)] 26])
    | false => (match (plainL (outRaw (W.d (q.toNat + 0)) (W.op (q.toNat + 0)).toNat)).length.blt 4 with
     | true => (match (plainL (outRaw (W.d (q.toNat + 0)) (W.op (q.toNat + 0)).toNat)).length.ble (plainL (outRaw (W.d (q.toNat + 0)) (W.op (q.toNat + 0)).toNat)).length with
      | true => (match hasG (lc (plainL (outRaw (W.d (q.toNat + 0)) (W.op (q.toNat + 0)).toNat))) (plainL (outRaw (W.d (q.toNat + 0)) (W.op (q.toNat + 0)).toNat)).length reg with
       | true => (match decide (0 ≤ q) with
        | true => (match decide (q < (↑n : Int)) with
         | true => (match (q.toNat + 0).blt N with
          | true => (match !W.done (q.toNat + 0) with
           | true => K Ex.ret (St.mk 47 [(0, V.sle 0 46 0 n cap), (3, V.raw (Value.int IntKind.i64 reg)), (6, V.ptr 1 0), (8, V.raw (Value.int IntKind.u64 0)), (9, V.raw (Value.bool false)), (10, V.raw (Value.int IntKind.i64 q))] [Ent.arr AM.ro [Col.int IntKind.u64 W.pc, Col.int IntKind.i64 W.op, Col.int IntKind.i64 W.d, Col.int IntKind.i64 W.n, Col.int IntKind.i64 W.m, Col.int IntKind.i64 W.a, Col.int IntKind.i64 W.c, Col.int IntKind.i64 W.im, Col.int IntKind.u64 W.next, Col.bool W.done, Col.int IntKind.u64 (W.x 0), Col.int IntKind.u64 (W.x 1), Col.int IntKind.u64 (W.x 2), Col.int IntKind.u64 (W.x 3), Col.int IntKind.u64 (W.x 4), Col.int IntKind.u64 (W.x 5), Col.int IntKind.u64 (W.x 6), Col.int IntKind.u64 (W.x 7), Col.int IntKind.u64 (W.x 8), Col.int IntKind.u64 (W.x 9), Col.int IntKind.u64 (W.x 10), Col.int IntKind.u64 (W.x 11), Col.int IntKind.u64 (W.x 12), Col.int IntKind.u64 (W.x 13), Col.int IntKind.u64 (W.x 14), Col.int IntKind.u64 (W.x 15), Col.int IntKind.u64 (W.x 16), Col.int IntKind.u64 (W.x 17), Col.int IntKind.u64 (W.x 18), Col.int IntKind.u64 (W.x 19), Col.int IntKind.u64 (W.x 20), Col.int IntKind.u64 (W.x 21), Col.int IntKind.u64 (W.x 22), Col.int IntKind.u64 (W.x 23), Col.int IntKind.u64 (W.x 24), Col.int IntKind.u64 (W.x 25), Col.int IntKind.u64 (W.x 26), Col.int IntKind.u64 (W.x 27), Col.int IntKind.u64 (W.x 28), Col.int IntKind.u64 (W.x 29), Col.int IntKind.u64 (W.x 30), Col.int IntKind.u64 (W.x 31), Col.bool W.nf, Col.bool W.zf, Col.bool W.cf, Col.bool W.vf] N t, Ent.own [V.raw (Value.int IntKind.u64 (r.x 0)), V.raw (Value.int IntKind.u64 (r.x 1)), V.raw (Value.int IntKind.u64 (r.x 2)), V.raw (Value.int IntKind.u64 (r.x 3)), V.raw (Value.int IntKind.u64 (r.x 4)), V.raw (Value.int IntKind.u64 (r.x 5)), V.raw (Value.int IntKind.u64 (r.x 6)), V.raw (Value.int IntKind.u64 (r.x 7)), V.raw (Value.int IntKind.u64 (r.x 8)), V.raw (Value.int IntKind.u64 (r.x 9)), V.raw (Value.int IntKind.u64 (r.x 10)), V.raw (Value.int IntKind.u64 (r.x 11)), V.raw (Value.int IntKind.u64 (r.x 12)), V.raw (Value.int IntKind.u64 (r.x 13)), V.raw (Value.int IntKind.u64 (r.x 14)), V.raw (Value.int IntKind.u64 (r.x 15)), V.raw (Value.int IntKind.u64 (r.x 16)), V.raw (Value.int IntKind.u64 (r.x 17)), V.raw (Value.int IntKind.u64 (r.x 18)), V.raw (Value.int IntKind.u64 (r.x 19)), V.raw (Value.int IntKind.u64 (r.x 20)), V.raw (Value.int IntKind.u64 (r.x 21)), V.raw (Value.int IntKind.u64 (r.x 22)), V.raw (Value.int IntKind.u64 (r.x 23)), V.raw (Value.int IntKind.u64 (r.x 24)), V.raw (Value.int IntKind.u64 (r.x 25)), V.raw (Value.int IntKind.u64 (r.x 26)), V.raw (Value.int IntKind.u64 (r.x 27)), V.raw (Value.int IntKind.u64 (r.x 28)), V.raw (Value.int IntKind.u64 (r.x 29)), V.raw (Value.int IntKind.u64 (r.x 30)), V.raw (Value.int IntKind.u64 (r.x 31)), V.raw (Value.bool r.nf), V.raw (Value.bool r.zf), V.raw (Value.bool r.cf), V.raw (Value.bool r.vf)] 26])
           | false => (match decide (0 ≤ q) with
            | true => (match decide (q < (↑n : Int)) with
             | true => (match (q.toNat + 0).blt N with
              | true => K Ex.ret (St.mk 47 [(0, V.sle 0 46 0 n cap), (3, V.raw (Value.int IntKind.i64 reg)), (6, V.ptr 1 0), (8, V.raw (Value.int IntKind.u64 (getW (fun i ↦ [W.x 0 (q.toNat + 0), W.x 1 (q.toNat + 0), W.x 2 (q.toNat + 0), W.x 3 (q.toNat + 0), W.x 4 (q.toNat + 0), W.x 5 (q.toNat + 0), W.x 6 (q.toNat + 0), W.x 7 (q.toNat + 0), W.x 8 (q.toNat + 0), W.x 9 (q.toNat + 0), W.x 10 (q.toNat + 0), W.x 11 (q.toNat + 0), W.x 12 (q.toNat + 0), W.x 13 (q.toNat + 0), W.x 14 (q.toNat + 0), W.x 15 (q.toNat + 0), W.x 16 (q.toNat + 0), W.x 17 (q.toNat + 0), W.x 18 (q.toNat + 0), W.x 19 (q.toNat + 0), W.x 20 (q.toNat + 0), W.x 21 (q.toNat + 0), W.x 22 (q.toNat + 0), W.x 23 (q.toNat + 0), W.x 24 (q.toNat + 0), W.x 25 (q.toNat + 0), W.x 26 (q.toNat + 0), W.x 27 (q.toNat + 0), W.x 28 (q.toNat + 0), W.x 29 (q.toNat + 0), W.x 30 (q.toNat + 0), W.x 31 (q.toNat + 0)].getD i 0) (W.nf (q.toNat + 0)) (W.zf (q.toNat + 0)) (W.cf (q.toNat + 0)) (W.vf (q.toNat + 0)) reg))), (9, V.raw (Value.bool true)), (10, V.raw (Value.int IntKind.i64 q))] [Ent.arr AM.ro [Col.int IntKind.u64 W.pc, Col.int IntKind.i64 W.op, Col.int IntKind.i64 W.d, Col.int IntKind.i64 W.n, Col.int IntKind.i64 W.m, Col.int IntKind.i64 W.a, Col.int IntKind.i64 W.c, Col.int IntKind.i64 W.im, Col.int IntKind.u64 W.next, Col.bool W.done, Col.int IntKind.u64 (W.x 0), Col.int IntKind.u64 (W.x 1), Col.int IntKind.u64 (W.x 2), Col.int IntKind.u64 (W.x 3), Col.int IntKind.u64 (W.x 4), Col.int IntKind.u64 (W.x 5), Col.int IntKind.u64 (W.x 6), Col.int IntKind.u64 (W.x 7), Col.int IntKind.u64 (W.x 8), Col.int IntKind.u64 (W.x 9), Col.int IntKind.u64 (W.x 10), Col.int IntKind.u64 (W.x 11), Col.int IntKind.u64 (W.x 12), Col.int IntKind.u64 (W.x 13), Col.int IntKind.u64 (W.x 14), Col.int IntKind.u64 (W.x 15), Col.int IntKind.u64 (W.x 16), Col.int IntKind.u64 (W.x 17), Col.int IntKind.u64 (W.x 18), Col.int IntKind.u64 (W.x 19), Col.int IntKind.u64 (W.x 20), Col.int IntKind.u64 (W.x 21), Col.int IntKind.u64 (W.x 22), Col.int IntKind.u64 (W.x 23), Col.int IntKind.u64 (W.x 24), Col.int IntKind.u64 (W.x 25), Col.int IntKind.u64 (W.x 26), Col.int IntKind.u64 (W.x 27), Col.int IntKind.u64 (W.x 28), Col.int IntKind.u64 (W.x 29), Col.int IntKind.u64 (W.x 30), Col.int IntKind.u64 (W.x 31), Col.bool W.nf, Col.bool W.zf, Col.bool W.cf, Col.bool W.vf] N t, Ent.own [V.raw (Value.int IntKind.u64 (r.x 0)), V.raw (Value.int IntKind.u64 (r.x 1)), V.raw (Value.int IntKind.u64 (r.x 2)), V.raw (Value.int IntKind.u64 (r.x 3)), V.raw (Value.int IntKind.u64 (r.x 4)), V.raw (Value.int IntKind.u64 (r.x 5)), V.raw (Value.int IntKind.u64 (r.x 6)), V.raw (Value.int IntKind.u64 (r.x 7)), V.raw (Value.int IntKind.u64 (r.x 8)), V.raw (Value.int IntKind.u64 (r.x 9)), V.raw (Value.int IntKind.u64 (r.x 10)), V.raw (Value.int IntKind.u64 (r.x 11)), V.raw (Value.int IntKind.u64 (r.x 12)), V.raw (Value.int IntKind.u64 (r.x 13)), V.raw (Value.int IntKind.u64 (r.x 14)), V.raw (Value.int IntKind.u64 (r.x 15)), V.raw (Value.int IntKind.u64 (r.x 16)), V.raw (Value.int IntKind.u64 (r.x 17)), V.raw (Value.int IntKind.u64 (r.x 18)), V.raw (Value.int IntKind.u64 (r.x 19)), V.raw (Value.int IntKind.u64 (r.x 20)), V.raw (Value.int IntKind.u64 (r.x 21)), V.raw (Value.int IntKind.u64 (r.x 22)), V.raw (Value.int IntKind.u64 (r.x 23)), V.raw (Value.int IntKind.u64 (r.x 24)), V.raw (Value.int IntKind.u64 (r.x 25)), V.raw (Value.int IntKind.u64 (r.x 26)), V.raw (Value.int IntKind.u64 (r.x 27)), V.raw (Value.int IntKind.u64 (r.x 28)), V.raw (Value.int IntKind.u64 (r.x 29)), V.raw (Value.int IntKind.u64 (r.x 30)), V.raw (Value.int IntKind.u64 (r.x 31)), V.raw (Value.bool r.nf), V.raw (Value.bool r.zf), V.raw (Value.bool r.cf), V.raw (Value.bool r.vf)] 26])
              | false => False)
             | false => False)
            | false => False))
          | false => False)
         | false => False)
        | false => False)
       | false => K Ex.normal (St.mk 47 [(0, V.sle 0 46 0 n cap), (3, V.raw (Value.int IntKind.i64 reg)), (6, V.ptr 1 0), (8, V.raw (Value.int IntKind.u64 0)), (9, V.raw (Value.bool false)), (10, V.raw (Value.int IntKind.i64 (IntKind.i64.wrap (q - 1))))] [Ent.arr AM.ro [Col.int IntKind.u64 W.pc, Col.int IntKind.i64 W.op, Col.int IntKind.i64 W.d, Col.int IntKind.i64 W.n, Col.int IntKind.i64 W.m, Col.int IntKind.i64 W.a, Col.int IntKind.i64 W.c, Col.int IntKind.i64 W.im, Col.int IntKind.u64 W.next, Col.bool W.done, Col.int IntKind.u64 (W.x 0), Col.int IntKind.u64 (W.x 1), Col.int IntKind.u64 (W.x 2), Col.int IntKind.u64 (W.x 3), Col.int IntKind.u64 (W.x 4), Col.int IntKind.u64 (W.x 5), Col.int IntKind.u64 (W.x 6), Col.int IntKind.u64 (W.x 7), Col.int IntKind.u64 (W.x 8), Col.int IntKind.u64 (W.x 9), Col.int IntKind.u64 (W.x 10), Col.int IntKind.u64 (W.x 11), Col.int IntKind.u64 (W.x 12), Col.int IntKind.u64 (W.x 13), Col.int IntKind.u64 (W.x 14), Col.int IntKind.u64 (W.x 15), Col.int IntKind.u64 (W.x 16), Col.int IntKind.u64 (W.x 17), Col.int IntKind.u64 (W.x 18), Col.int IntKind.u64 (W.x 19), Col.int IntKind.u64 (W.x 20), Col.int IntKind.u64 (W.x 21), Col.int IntKind.u64 (W.x 22), Col.int IntKind.u64 (W.x 23), Col.int IntKind.u64 (W.x 24), Col.int IntKind.u64 (W.x 25), Col.int IntKind.u64 (W.x 26), Col.int IntKind.u64 (W.x 27), Col.int IntKind.u64 (W.x 28), Col.int IntKind.u64 (W.x 29), Col.int IntKind.u64 (W.x 30), Col.int IntKind.u64 (W.x 31), Col.bool W.nf, Col.bool W.zf, Col.bool W.cf, Col.bool W.vf] N t, Ent.own [V.raw (Value.int IntKind.u64 (r.x 0)), V.raw (Value.int IntKind.u64 (r.x 1)), V.raw (Value.int IntKind.u64 (r.x 2)), V.raw (Value.int IntKind.u64 (r.x 3)), V.raw (Value.int IntKind.u64 (r.x 4)), V.raw (Value.int IntKind.u64 (r.x 5)), V.raw (Value.int IntKind.u64 (r.x 6)), V.raw (Value.int IntKind.u64 (r.x 7)), V.raw (Value.int IntKind.u64 (r.x 8)), V.raw (Value.int IntKind.u64 (r.x 9)), V.raw (Value.int IntKind.u64 (r.x 10)), V.raw (Value.int IntKind.u64 (r.x 11)), V.raw (Value.int IntKind.u64 (r.x 12)), V.raw (Value.int IntKind.u64 (r.x 13)), V.raw (Value.int IntKind.u64 (r.x 14)), V.raw (Value.int IntKind.u64 (r.x 15)), V.raw (Value.int IntKind.u64 (r.x 16)), V.raw (Value.int IntKind.u64 (r.x 17)), V.raw (Value.int IntKind.u64 (r.x 18)), V.raw (Value.int IntKind.u64 (r.x 19)), V.raw (Value.int IntKind.u64 (r.x 20)), V.raw (Value.int IntKind.u64 (r.x 21)), V.raw (Value.int IntKind.u64 (r.x 22)), V.raw (Value.int IntKind.u64 (r.x 23)), V.raw (Value.int IntKind.u64 (r.x 24)), V.raw (Value.int IntKind.u64 (r.x 25)), V.raw (Value.int IntKind.u64 (r.x 26)), V.raw (Value.int IntKind.u64 (r.x 27)), V.raw (Value.int IntKind.u64 (r.x 28)), V.raw (Value.int IntKind.u64 (r.x 29)), V.raw (Value.int IntKind.u64 (r.x 30)), V.raw (Value.int IntKind.u64 (r.x 31)), V.raw (Value.bool r.nf), V.raw (Value.bool r.zf), V.raw (Value.bool r.cf), V.raw (Value.bool r.vf)] 26]))
      | false => False)
     | false => False))
   | false => False)
  | false => False)
 | false => False)
| false => K (Ex.exit 0) (St.mk 47 [(0, V.sle 0 46 0 n cap), (3, V.raw (Value.int IntKind.i64 reg)), (6, V.ptr 1 0), (8, V.raw (Value.int IntKind.u64 0)), (9, V.raw (Value.bool false)), (10, V.raw (Value.int IntKind.i64 q))] [Ent.arr AM.ro [Col.int IntKind.u64 W.pc, Col.int IntKind.i64 W.op, Col.int IntKind.i64 W.d, Col.int IntKind.i64 W.n, Col.int IntKind.i64 W.m, Col.int IntKind.i64 W.a, Col.int IntKind.i64 W.c, Col.int IntKind.i64 W.im, Col.int IntKind.u64 W.next, Col.bool W.done, Col.int IntKind.u64 (W.x 0), Col.int IntKind.u64 (W.x 1), Col.int IntKind.u64 (W.x 2), Col.int IntKind.u64 (W.x 3), Col.int IntKind.u64 (W.x 4), Col.int IntKind.u64 (W.x 5), Col.int IntKind.u64 (W.x 6), Col.int IntKind.u64 (W.x 7), Col.int IntKind.u64 (W.x 8), Col.int IntKind.u64 (W.x 9), Col.int IntKind.u64 (W.x 10), Col.int IntKind.u64 (W.x 11), Col.int IntKind.u64 (W.x 12), Col.int IntKind.u64 (W.x 13), Col.int IntKind.u64 (W.x 14), Col.int IntKind.u64 (W.x 15), Col.int IntKind.u64 (W.x 16), Col.int IntKind.u64 (W.x 17), Col.int IntKind.u64 (W.x 18), Col.int IntKind.u64 (W.x 19), Col.int IntKind.u64 (W.x 20), Col.int IntKind.u64 (W.x 21), Col.int IntKind.u64 (W.x 22), Col.int IntKind.u64 (W.x 23), Col.int IntKind.u64 (W.x 24), Col.int IntKind.u64 (W.x 25), Col.int IntKind.u64 (W.x 26), Col.int IntKind.u64 (W.x 27), Col.int IntKind.u64 (W.x 28), Col.int IntKind.u64 (W.x 29), Col.int IntKind.u64 (W.x 30), Col.int IntKind.u64 (W.x 31), Col.bool W.nf, Col.bool W.zf, Col.bool W.cf, Col.bool W.vf] N t, Ent.own [V.raw (Value.int IntKind.u64 (r.x 0)), V.raw (Value.int IntKind.u64 (r.x 1)), V.raw (Value.int IntKind.u64 (r.x 2)), V.raw (Value.int IntKind.u64 (r.x 3)), V.raw (Value.int IntKind.u64 (r.x 4)), V.raw (Value.int IntKind.u64 (r.x 5)), V.raw (Value.int IntKind.u64 (r.x 6)), V.raw (Value.int IntKind.u64 (r.x 7)), V.raw (Value.int IntKind.u64 (r.x 8)), V.raw (Value.int IntKind.u64 (r.x 9)), V.raw (Value.int IntKind.u64 (r.x 10)), V.raw (Value.int IntKind.u64 (r.x 11)), V.raw (Value.int IntKind.u64 (r.x 12)), V.raw (Value.int IntKind.u64 (r.x 13)), V.raw (Value.int IntKind.u64 (r.x 14)), V.raw (Value.int IntKind.u64 (r.x 15)), V.raw (Value.int IntKind.u64 (r.x 16)), V.raw (Value.int IntKind.u64 (r.x 17)), V.raw (Value.int IntKind.u64 (r.x 18)), V.raw (Value.int IntKind.u64 (r.x 19)), V.raw (Value.int IntKind.u64 (r.x 20)), V.raw (Value.int IntKind.u64 (r.x 21)), V.raw (Value.int IntKind.u64 (r.x 22)), V.raw (Value.int IntKind.u64 (r.x 23)), V.raw (Value.int IntKind.u64 (r.x 24)), V.raw (Value.int IntKind.u64 (r.x 25)), V.raw (Value.int IntKind.u64 (r.x 26)), V.raw (Value.int IntKind.u64 (r.x 27)), V.raw (Value.int IntKind.u64 (r.x 28)), V.raw (Value.int IntKind.u64 (r.x 29)), V.raw (Value.int IntKind.u64 (r.x 30)), V.raw (Value.int IntKind.u64 (r.x 31)), V.raw (Value.bool r.nf), V.raw (Value.bool r.zf), V.raw (Value.bool r.cf), V.raw (Value.bool r.vf)] 26]))
set_option maxRecDepth 1000000 in
theorem body_eq (W : WinC) (n N cap : Nat) (t : TypeId) (reg : Int) (r : RegsF) (q : Int) (K : Ex → St → Prop) : evG Try.prog EV 40 (lft (subAt p1 (codeOf Try.prog 10))) (SV W n N cap t reg r q) (fun e st => K e (gcSt 1 live st)) = body_f W  n N cap  t  reg  r  q  K := by kernel_rfl
def post_f (W : WinC) (n N cap : Nat) (t : TypeId) (reg : Int) (r : RegsF) (q : Int) (K : V → Prop) : Prop :=
K (V.tup [V.raw (Value.int IntKind.u64 (getW (fun i ↦ [r.x 0, r.x 1, r.x 2, r.x 3, r.x 4, r.x 5, r.x 6, r.x 7, r.x 8, r.x 9, r.x 10, r.x 11, r.x 12, r.x 13, r.x 14, r.x 15, r.x 16, r.x 17, r.x 18, r.x 19, r.x 20, r.x 21, r.x 22, r.x 23, r.x 24, r.x 25, r.x 26, r.x 27, r.x 28, r.x 29, r.x 30, r.x 31].getD i 0) r.nf r.zf r.cf r.vf reg)), V.raw (Value.bool true)])
set_option maxRecDepth 1000000 in
theorem post_eq (W : WinC) (n N cap : Nat) (t : TypeId) (reg : Int) (r : RegsF) (q : Int) (K : V → Prop) : evG Try.prog EV 40 c1 (SV W n N cap t reg r q) (bodyK False Try.prog (funcOf Try.prog 10) (rK K)) = post_f W  n N cap  t  reg  r  q  K := by kernel_rfl
def onret_f (v0 v3 v6 v8 v9 v10 : V) (s : Sto) (K : V → Prop) : Prop :=
K (V.tup [v8, v9])
set_option maxRecDepth 1000000 in
theorem onret_eq (v0 v3 v6 v8 v9 v10 : V) (s : Sto) (K : V → Prop) : ctxK Try.prog 1 p1 (codeOf Try.prog 10) (bodyK False Try.prog (funcOf Try.prog 10) (rK K)) .ret ⟨47, [(0, v0), (3, v3), (6, v6), (8, v8), (9, v9), (10, v10)], s⟩ = onret_f v0 v3 v6 v8 v9 v10  s  K := by kernel_rfl
end Go.Proofs.Ytllfmafebhifdaa.valF
end
section
/- win.Value. -/
set_option linter.unusedVariables false
set_option linter.unusedSimpArgs false
set_option maxRecDepth 100000
namespace Go.Proofs.Ytllfmafebhifdaa.win
open Go Go.Proofs Go.Proofs.YtllfmafebhifdaaRL Go.Proofs.Ytllfmafebhifdaa.isa
open Go.Proofs.Ytllfmafebhifdaa.valF (EV live p1 c1 SV pre_f pre_eq body_f body_eq post_f post_eq onret_f onret_eq)
theorem EV_ok : EOk Try.prog EV := ouA_ok (contA_ok (getWG_ok noE_ok))
theorem getW_norm (x : Nat → Int) (nf zf cf vf : Bool) (n : Int) : getW (norm x) nf zf cf vf n = getW x nf zf cf vf n := by
  unfold getW
  rw [norm_get]
theorem hasG_lc (l : List Int) (x : Int) : hasG (lc l) l.length x = l.any (x == ·) := by
  unfold hasG
  congr 1
  apply List.ext_getElem?
  intro j
  rw [List.getElem?_map]
  by_cases h : j < l.length
  · rw [List.getElem?_range h]
    show some (l.getD j 0) = _
    rw [List.getD_eq_getElem?_getD, List.getElem?_eq_getElem h]; rfl
  · rw [List.getElem?_eq_none (by simpa using h), List.getElem?_eq_none (by omega)]; rfl
theorem filt_len (l : List Int) : (filtL l).length ≤ l.length := List.length_filter_le _ _
theorem plain_len {l : List Int} (h : l.length < 4) : (plainL l).length < 4 := by
  unfold plainL
  have h1 := filt_len (dedL (sortL l))
  rcases Nat.eq_zero_or_pos l.length with h0 | h0
  · have : l = [] := List.eq_nil_of_length_eq_zero h0
    subst this
    exact Nat.lt_of_le_of_lt h1 (by decide)
  · have h2 := dedL_len (l := sortL l) (by rw [sortL_len]; exact h0) (by rw [sortL_len]; exact h)
    omega
theorem out_len (d : Int) (k : Nat) : (outRaw d k).length < 4 := by
  unfold outRaw
  split <;> simp
theorem in_len (d n m a : Int) (k : Nat) : (inRaw d n m a k).length < 4 := by
  unfold inRaw
  split <;> simp
theorem ble_self (i : Nat) : Nat.ble i i = true := Nat.ble_eq_true_of_le (Nat.le_refl _)
theorem out_none {W : WinC} {j : Nat} (h : (W.chk j != 0 || (outRaw (W.d j) (W.op j).toNat).isEmpty) = true) : W.out j = [] := by
  unfold WinC.out
  by_cases hc : W.chk j = 0
  · rw [if_pos hc]
    rw [hc] at h
    have : (outRaw (W.d j) (W.op j).toNat).isEmpty = true := h
    rw [List.isEmpty_iff.1 this]; rfl
  · rw [if_neg hc]
theorem out_some {W : WinC} {j : Nat} (h : (W.chk j != 0 || (outRaw (W.d j) (W.op j).toNat).isEmpty) = false) : W.out j = plainL (outRaw (W.d j) (W.op j).toNat) := by
  unfold WinC.out
  rw [Bool.or_eq_false_iff] at h
  rw [if_pos (by simpa using h.1)]
theorem after1 (K : Ex → St → Prop) (st : St) : ctxK Try.prog 1 p1 (codeOf Try.prog 10) K (.exit 0) st = CodeB Try.prog 1 c1 st K := by kernel_rfl
section
variable (W : WinC) (n N cap : Nat) (t : TypeId) (i reg : Int) (r : RegsF)
def vR (p : Int × Bool) : V := .tup [.raw (.int .u64 p.1), .raw (.bool p.2)]
abbrev KVv (p : Int × Bool) : Ex → St → Prop := ctxK Try.prog 1 p1 (codeOf Try.prog 10) (bodyK False Try.prog (funcOf Try.prog 10) (rK fun v => v = vR p))
theorem val_end (q : Int) (p : Int × Bool) (h : W.back r reg 0 = p) : KVv p (.exit 0) (SV W n N cap t reg r q) := by
  unfold KVv
  rw [after1]
  refine CodeB.of (evG_ok EV_ok names mixed (n := 40) ?_)
  have hp := post_eq W n N cap t reg r q fun v => v = vR p
  refine hp.mpr ?_
  subst h
  show V.tup [.raw (.int .u64 (getW (norm r.x) r.nf r.zf r.cf r.vf reg)), .raw (.bool true)] = _
  rw [getW_norm]; rfl
theorem RK_ret {α : Type} {b : Nat} {S : α → St} {I : α → Prop} {μ : α → Nat} {x : α} {K : Ex → St → Prop} {st : St} : RK b S I μ x K .ret st = K .ret st := rfl
theorem val_ret (p : Int × Bool) (v0 v3 v6 v8 v9 v10 : V) (s : Sto) (h : V.tup [v8, v9] = vR p) : KVv p .ret ⟨47, [(0, v0), (3, v3), (6, v6), (8, v8), (9, v9), (10, v10)], s⟩ := (onret_eq v0 v3 v6 v8 v9 v10 s fun v => v = vR p).mpr h
theorem val_round (p : Int × Bool) (hN : n ≤ N) (hn : n ≤ 1000000) (k : Nat) (hk : k ≤ n) (hp : W.back r reg k = p) (K0 : Ex → St → Prop) (hend : ∀ q, W.back r reg 0 = p → K0 (.exit 0) (SV W n N cap t reg r q)) (hret : ∀ v0 v3 v6 v8 v9 v10 s, V.tup [v8, v9] = vR p → K0 .ret ⟨47, [(0, v0), (3, v3), (6, v6), (8, v8), (9, v9), (10, v10)], s⟩) :
    body_f W n N cap t reg r ((k : Int) - 1) (RK 1 (fun k : Nat => SV W n N cap t reg r ((k : Int) - 1)) (fun k => k ≤ n ∧ W.back r reg k = p) (fun k => k) k K0) := by
  unfold body_f
  cases k with
  | zero =>
    exact hend _ hp
  | succ k =>
    have e0 : ((k + 1 : Nat) : Int) - 1 = (k : Int) := by omega
    have c1 : decide ((k : Int) ≥ 0) = true := decide_eq_true (by omega)
    have c2 : decide ((0 : Int) ≤ (k : Int)) = true := decide_eq_true (by omega)
    have c3 : decide ((k : Int) < (n : Int)) = true := decide_eq_true (by omega)
    have c4 : Nat.blt k N = true := blt_lt (by omega)
    have c5 : IntKind.i64.wrap ((k : Int) - 1) = (k : Int) - 1 := wrap_i64_in (by omega) (by omega)
    have c6 : ((k : Int)).toNat + 0 = k := rfl
    simp only [e0, c1, c2, c3, c6, c4, c5]
    have hb : W.back r reg (k + 1) = if (W.out k).any (reg == ·) then (if W.done k then ((W.regs k).get reg, true) else (0, false)) else W.back r reg k := rfl
    rw [hb] at hp
    cases h1 : (W.chk k != 0 || (outRaw (W.d k) (W.op k).toNat).isEmpty) with
    | true =>
      have h1' : (chkV (W.op k) (W.d k) (W.n k) (W.m k) (W.a k) (W.c k) (W.im k) != 0 || (outRaw (W.d k) (W.op k).toNat).isEmpty) = true := h1
      rw [h1']
      rw [out_none h1] at hp
      exact RK.go (y := k) (by kernel_rfl) ⟨by omega, hp⟩ (by omega)
    | false =>
      have h1' : (chkV (W.op k) (W.d k) (W.n k) (W.m k) (W.a k) (W.c k) (W.im k) != 0 || (outRaw (W.d k) (W.op k).toNat).isEmpty) = false := h1
      rw [h1', blt_lt (plain_len (out_len (W.d k) (W.op k).toNat)), ble_self, hasG_lc]
      rw [out_some h1] at hp
      cases h2 : (plainL (outRaw (W.d k) (W.op k).toNat)).any (reg == ·) with
      | true =>
        rw [h2] at hp
        cases h3 : W.done k with
        | true =>
          rw [h3] at hp
          rw [RK_ret]
          refine hret _ _ _ _ _ _ _ ?_
          subst hp
          show V.tup [.raw (.int .u64 (getW (norm fun i => W.x i k) (W.nf k) (W.zf k) (W.cf k) (W.vf k) reg)), .raw (.bool true)] = _
          rw [getW_norm]; rfl
        | false =>
          rw [h3] at hp
          rw [RK_ret]
          refine hret _ _ _ _ _ _ _ ?_
          subst hp
          rfl
      | false =>
        rw [h2] at hp
        exact RK.go (y := k) (by kernel_rfl) ⟨by omega, hp⟩ (by omega)
theorem val_call (hN : n ≤ N) (hn : n ≤ 1000000) : CallOk Try.prog 10 [.sle 0 46 0 n cap, .raw (.int .i64 i), r.v, .raw (.int .i64 reg)] [.arr .ro W.cols N t] fun q _ => q = .ret (vR (W.val n i r reg)) := by
  refine CallOk.mono (K := rK fun v => v = vR (W.val n i r reg)) (CallOk.fnB names (by kernel_rfl) ?_) rK_ok
  refine evTo_ok EV_ok names mixed (n := 40) (b := 1) (Z := fun st => ∃ k : Nat, k ≤ n ∧ W.back r reg k = W.val n i r reg ∧ gcSt 1 live st = SV W n N cap t reg r ((k : Int) - 1)) p1 _ _ _ (fun st hz => ?_) ?_
  · obtain ⟨k, hk, hv, hz⟩ := hz
    refine CodeB.lop (by kernel_rfl) (LoopB.byE EV_ok names mixed (N := 40) (fun k : Nat => SV W n N cap t reg r ((k : Int) - 1)) (fun k => k ≤ n ∧ W.back r reg k = W.val n i r reg) (fun k => k) live (fun x hx => ?_) st k (by have h := gc_tells 1 live st; rw [hz] at h; exact h) ⟨hk, hv⟩)
    have hp := body_eq W n N cap t reg r ((x : Int) - 1) (RK 1 (fun k : Nat => SV W n N cap t reg r ((k : Int) - 1)) (fun k => k ≤ n ∧ W.back r reg k = W.val n i r reg) (fun k => k) x (KVv (W.val n i r reg)))
    exact hp.mpr (val_round W n N cap t reg r _ hN hn x hx.1 hx.2 _ (fun q h => val_end W n N cap t reg r q _ h) fun v0 v3 v6 v8 v9 v10 s h => val_ret _ v0 v3 v6 v8 v9 v10 s h)
  · have hp := pre_eq W n N cap t i reg r (fun v => v = vR (W.val n i r reg)) fun st => ∃ k : Nat, k ≤ n ∧ W.back r reg k = W.val n i r reg ∧ st = SV W n N cap t reg r ((k : Int) - 1)
    refine hp.mpr ?_
    unfold pre_f WinC.val
    by_cases h1 : 0 ≤ i
    · have c1 : decide (i ≥ 0) = true := decide_eq_true h1
      rw [c1]
      by_cases h2 : i < (n : Int)
      · rw [if_pos ⟨h1, h2⟩, decide_eq_true h2]
        by_cases h3 : reg = 31
        · rw [if_pos h3, beq_iff_eq.2 h3]; rfl
        · rw [if_neg h3, beq_eq_false_iff_ne.2 h3]
          obtain ⟨k, rfl⟩ := Int.eq_ofNat_of_zero_le h1
          have c5 : IntKind.i64.wrap ((k : Int) - 1) = (k : Int) - 1 := wrap_i64_in (by omega) (by omega)
          rw [c5]
          exact ⟨k, by omega, rfl, by kernel_rfl⟩
      · rw [if_neg (fun h => h2 h.2), decide_eq_false h2]; rfl
    · have c1 : decide (i ≥ 0) = false := decide_eq_false h1
      rw [c1, if_neg (fun h => h1 h.1)]; rfl
end
end Go.Proofs.Ytllfmafebhifdaa.win
end
