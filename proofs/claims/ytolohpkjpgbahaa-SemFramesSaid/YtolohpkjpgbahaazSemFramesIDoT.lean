/- Parts of the proof, one behind the other. -/
import Derived.Test.YtolohpkjpgbahaazSemFramesIDoD
import Derived.Test.YtolohpkjpgbahaazSemFramesINum
section
/- sem.Do: what an instruction does. Printed by gendo.py. -/
set_option linter.unusedVariables false
set_option linter.unusedSimpArgs false
namespace Go.Proofs.Ytolohpkjpgbahaa.isa
open Go Go.Proofs Go.Proofs.YtolohpkjpgbahaaRL
def w64 (v : Int) : Int := IntKind.u64.wrap v
def notU (b : Int) : Int := Go.bits .xor .u64 18446744073709551615 b
def subU (a b : Int) : Int := w64 (w64 (a + notU b) + 1)
def subC (a b : Int) : Bool := decide (w64 (a + notU b) < a) || subU a b == 0
def subN (a b : Int) : Bool := decide (IntKind.i64.wrap (subU a b) < 0)
def subV (a b : Int) : Bool := decide (IntKind.i64.wrap (Go.bits .and .u64 (Go.bits .xor .u64 a (subU a b)) (Go.bits .xor .u64 (notU b) (subU a b))) < 0)
def shM (m : Int) : Int := 2 ^ min (IntKind.i64.wrap (16 * m)).toNat 64
def sh63 (m : Int) : Int := 2 ^ min (Go.bits .and .u64 m 63).toNat 64
def divU (a b : Int) : Int := if IntKind.i64.wrap b = 0 then 0 else if IntKind.i64.wrap b = -1 then w64 (IntKind.i64.wrap (0 - IntKind.i64.wrap a)) else w64 (IntKind.i64.wrap ((IntKind.i64.wrap a).tdiv (IntKind.i64.wrap b)))
def stkn (n : Int) : Int := if n = 31 then 32 else n
/-- What an instruction does. -/
structure Eff where
  x : Nat → Int
  nf : Bool
  zf : Bool
  cf : Bool
  vf : Bool
  next : Int
  addr : Int
  data : Int
  touch : Bool
def effV (e : Eff) : V := .agg (numsV .u64 e.x 32 ++ [.raw (.bool e.nf), .raw (.bool e.zf), .raw (.bool e.cf), .raw (.bool e.vf), .raw (.int .u64 e.next), .raw (.int .u64 e.addr), .raw (.int .u64 e.data), .raw (.bool e.touch)])
/-- The number that an op lays into its register. -/
def valE (k : Nat) (x : Nat → Int) (nf zf cf vf : Bool) (d n m a c im : Int) : Int := match k with
  | 2 => w64 (w64 im * shM m)
  | 3 => Go.bits .or .u64 (Go.bits .andNot .u64 (getX x d) (w64 (65535 * shM m))) (w64 (w64 im * shM m))
  | 4 => w64 (getX x (stkn n) + w64 im)
  | 5 => w64 (getX x (stkn n) - w64 im)
  | 6 => subU (getX x (stkn n)) (w64 im)
  | 7 => w64 (getX x n + getX x m)
  | 8 => w64 (getX x n - getX x m)
  | 9 => subU (getX x n) (getX x m)
  | 10 => Go.bits .and .u64 (getX x n) (getX x m)
  | 11 => Go.bits .or .u64 (getX x n) (getX x m)
  | 12 => Go.bits .xor .u64 (getX x n) (getX x m)
  | 13 => w64 (getX x a + w64 (getX x n * getX x m))
  | 14 => w64 (getX x a - w64 (getX x n * getX x m))
  | 15 => divU (getX x n) (getX x m)
  | 16 => w64 (getX x n * sh63 (getX x m))
  | 17 => (getX x n).fdiv (sh63 (getX x m))
  | 18 => w64 ((IntKind.i64.wrap (getX x n)).fdiv (sh63 (getX x m)))
  | _ => match holdsX c nf zf cf vf with
    | true => getX x n
    | false => w64 (getX x m + 1)
def upX (x : Nat → Int) (v : Int) (i : Nat) : Int := match Nat.beq i 30 with
  | true => v
  | false => x i
/-- What a right instruction does. -/
def doE (k : Nat) (x : Nat → Int) (nf zf cf vf : Bool) (d n m a c im pc : Int) : Eff :=
  let v := valE k x nf zf cf vf d n m a c im
  let p4 := w64 (pc + 4)
  let go := w64 (pc + w64 im)
  match k with
  | 0 => ⟨x, nf, zf, cf, vf, p4, 0, 0, false⟩
  | 1 => ⟨x, nf, zf, cf, vf, p4, 0, 0, false⟩
  | 2 => ⟨setX x d v, nf, zf, cf, vf, p4, 0, 0, false⟩
  | 3 => ⟨setX x d v, nf, zf, cf, vf, p4, 0, 0, false⟩
  | 4 => ⟨setX x (stkn d) v, nf, zf, cf, vf, p4, 0, 0, false⟩
  | 5 => ⟨setX x (stkn d) v, nf, zf, cf, vf, p4, 0, 0, false⟩
  | 6 => ⟨setX x d v, subN (getX x (stkn n)) (w64 im), v == 0, subC (getX x (stkn n)) (w64 im), subV (getX x (stkn n)) (w64 im), p4, 0, 0, false⟩
  | 7 => ⟨setX x d v, nf, zf, cf, vf, p4, 0, 0, false⟩
  | 8 => ⟨setX x d v, nf, zf, cf, vf, p4, 0, 0, false⟩
  | 9 => ⟨setX x d v, subN (getX x n) (getX x m), v == 0, subC (getX x n) (getX x m), subV (getX x n) (getX x m), p4, 0, 0, false⟩
  | 10 => ⟨setX x d v, nf, zf, cf, vf, p4, 0, 0, false⟩
  | 11 => ⟨setX x d v, nf, zf, cf, vf, p4, 0, 0, false⟩
  | 12 => ⟨setX x d v, nf, zf, cf, vf, p4, 0, 0, false⟩
  | 13 => ⟨setX x d v, nf, zf, cf, vf, p4, 0, 0, false⟩
  | 14 => ⟨setX x d v, nf, zf, cf, vf, p4, 0, 0, false⟩
  | 15 => ⟨setX x d v, nf, zf, cf, vf, p4, 0, 0, false⟩
  | 16 => ⟨setX x d v, nf, zf, cf, vf, p4, 0, 0, false⟩
  | 17 => ⟨setX x d v, nf, zf, cf, vf, p4, 0, 0, false⟩
  | 18 => ⟨setX x d v, nf, zf, cf, vf, p4, 0, 0, false⟩
  | 19 => ⟨setX x d v, nf, zf, cf, vf, p4, 0, 0, false⟩
  | 20 => ⟨x, nf, zf, cf, vf, go, 0, 0, false⟩
  | 21 => ⟨x, nf, zf, cf, vf, (match holdsX c nf zf cf vf with | true => go | false => p4), 0, 0, false⟩
  | 22 => ⟨x, nf, zf, cf, vf, (match getX x d == 0 with | true => go | false => p4), 0, 0, false⟩
  | 23 => ⟨x, nf, zf, cf, vf, (match getX x d != 0 with | true => go | false => p4), 0, 0, false⟩
  | 24 => ⟨upX x p4, nf, zf, cf, vf, go, 0, 0, false⟩
  | 25 => ⟨x, nf, zf, cf, vf, getX x n, 0, 0, false⟩
  | 26 => ⟨upX x p4, nf, zf, cf, vf, getX x n, 0, 0, false⟩
  | 27 => ⟨x, nf, zf, cf, vf, getX x n, 0, 0, false⟩
  | 28 => ⟨x, nf, zf, cf, vf, p4, w64 (getX x (stkn n) + w64 im), 0, true⟩
  | 29 => ⟨x, nf, zf, cf, vf, p4, w64 (getX x (stkn n) + w64 im), getX x d, true⟩
  | 30 => ⟨x, nf, zf, cf, vf, p4, w64 (getX x (stkn n) + w64 im), 0, true⟩
  | 31 => ⟨x, nf, zf, cf, vf, p4, w64 (getX x (stkn n) + w64 (8 * getX x m)), 0, true⟩
  | 32 => ⟨x, nf, zf, cf, vf, p4, w64 (getX x (stkn n) + w64 (8 * getX x m)), getX x d, true⟩
  | 33 => ⟨x, nf, zf, cf, vf, p4, w64 (getX x (stkn n) + w64 im), 0, true⟩
  | 34 => ⟨x, nf, zf, cf, vf, p4, w64 (getX x (stkn n) + w64 im), getX x d, true⟩
  | 35 => ⟨x, nf, zf, cf, vf, p4, w64 (getX x (stkn n) + w64 im), 0, true⟩
  | 36 => ⟨x, nf, zf, cf, vf, p4, w64 (getX x (stkn n) + w64 im), getX x m, true⟩
  | 37 => ⟨x, nf, zf, cf, vf, p4, 0, 0, false⟩
  | 38 => ⟨x, nf, zf, cf, vf, p4, 0, 0, false⟩
  | 39 => ⟨x, nf, zf, cf, vf, p4, 0, 0, false⟩
  | 40 => ⟨x, nf, zf, cf, vf, p4, w64 (getX x n + w64 im), 0, true⟩
  | 41 => ⟨x, nf, zf, cf, vf, p4, w64 (getX x n + w64 im), 0, true⟩
  | 42 => ⟨x, nf, zf, cf, vf, p4, 0, 0, false⟩
  | _ => ⟨x, nf, zf, cf, vf, p4, 0, 0, false⟩
/-- What any instruction does. -/
def doV (op d n m a c im pc : Int) (x : Nat → Int) (nf zf cf vf : Bool) : Eff := if chkV op d n m a c im = 0 then doE op.toNat x nf zf cf vf d n m a c im pc else ⟨x, nf, zf, cf, vf, w64 (pc + 4), 0, 0, false⟩
/-- The code's tests, in their order. -/
def stkM (n : Int) (P : Int → Prop) : Prop := Br (n == 31) (P 32) (P n)
def subM (a b : Int) (P : Bool → Prop) : Prop := Br (decide (w64 (a + notU b) < a)) (P true) (P (subU a b == 0))
def divM (a b : Int) (P : Int → Prop) : Prop := Br (IntKind.i64.wrap b == 0) (P 0) (Br (IntKind.i64.wrap b == Int.negSucc 0) (P (w64 (IntKind.i64.wrap (0 - IntKind.i64.wrap a)))) (Br (IntKind.i64.wrap b != 0) (P (w64 (IntKind.i64.wrap ((IntKind.i64.wrap a).tdiv (IntKind.i64.wrap b))))) False))
theorem stkM_eq (n : Int) (P : Int → Prop) : stkM n P = P (stkn n) := by
  unfold stkM stkn
  by_cases h : n = 31
  · rw [if_pos h, h]; rfl
  · rw [if_neg h, beq_eq_false_iff_ne.2 h]; rfl
theorem subM_eq (a b : Int) (P : Bool → Prop) : subM a b P = P (subC a b) := by
  unfold subM subC
  cases decide (w64 (a + notU b) < a)
  · rw [Bool.false_or]; rfl
  · rw [Bool.true_or]; rfl
theorem divM_eq (a b : Int) (P : Int → Prop) : divM a b P = P (divU a b) := by
  unfold divM divU
  by_cases h : IntKind.i64.wrap b = 0
  · rw [if_pos h, h]; rfl
  · rw [if_neg h, beq_eq_false_iff_ne.2 h]
    by_cases h1 : IntKind.i64.wrap b = -1
    · rw [if_pos h1, h1]; rfl
    · have h2 : (IntKind.i64.wrap b == Int.negSucc 0) = false := beq_eq_false_iff_ne.2 h1
      have h3 : (IntKind.i64.wrap b != 0) = true := bne_iff_ne.2 h
      rw [if_neg h1, h2, h3]; rfl
theorem br_K {α : Type} (b : Bool) (u v : α) (K : α → Prop) : Br b (K u) (K v) = K (match b with | true => u | false => v) := by cases b <;> rfl
def bad (x : Nat → Int) (nf zf cf vf : Bool) (pc : Int) : Eff := ⟨x, nf, zf, cf, vf, w64 (pc + 4), 0, 0, false⟩
theorem doK_ok {E : V} : ∀ (r : Res) (s : Sto), doK (fun v => Res.ret v = .ret E) False r s → r = .ret E := by
  intro r s h
  cases r with
  | ret v => exact h
  | pan v => exact h.elim
theorem norm_at {x : Nat → Int} {i : Nat} (h : i < 32) : norm x i = x i := by
  unfold norm
  rw [List.getD_eq_getElem?_getD, List.getElem?_map, List.getElem?_range h]
  rfl
theorem norm_get (x : Nat → Int) (n : Int) : getX (norm x) n = getX x n := by
  unfold getX
  by_cases h : 0 ≤ n ∧ n < 31
  · rw [decide_eq_true h]; exact norm_at (by omega)
  · rw [decide_eq_false h]
    cases n == 32
    · rfl
    · exact norm_at (by omega)
theorem nums_congr {k : IntKind} {x y : Nat → Int} {m : Nat} (h : ∀ i, i < m → x i = y i) : numsV k x m = numsV k y m := by
  unfold numsV
  exact List.map_congr_left fun i hi => by rw [h i (List.mem_range.1 hi)]
theorem eff_norm (x : Nat → Int) (nf zf cf vf : Bool) (p q r : Int) (t : Bool) : effV ⟨norm x, nf, zf, cf, vf, p, q, r, t⟩ = effV ⟨x, nf, zf, cf, vf, p, q, r, t⟩ := by
  unfold effV
  rw [nums_congr (x := norm x) (y := x) fun i hi => norm_at hi]
theorem eff_set (x : Nat → Int) (d v : Int) (nf zf cf vf : Bool) (p q r : Int) (t : Bool) : effV ⟨setX (norm x) d v, nf, zf, cf, vf, p, q, r, t⟩ = effV ⟨setX x d v, nf, zf, cf, vf, p, q, r, t⟩ := by
  unfold effV
  rw [nums_congr (x := setX (norm x) d v) (y := setX x d v) fun i hi => by unfold setX; rw [norm_at hi]]
theorem eff_up (x : Nat → Int) (v : Int) (nf zf cf vf : Bool) (p q r : Int) (t : Bool) : effV ⟨upX (norm x) v, nf, zf, cf, vf, p, q, r, t⟩ = effV ⟨upX x v, nf, zf, cf, vf, p, q, r, t⟩ := by
  unfold effV
  rw [nums_congr (x := upX (norm x) v) (y := upX x v) fun i hi => by unfold upX; rw [norm_at hi]]
theorem chk_okI {op d n m a c im : Int} (h : chkV op d n m a c im = 0) : okI op d n m a c im := by
  unfold chkV at h
  by_cases hk : okI op d n m a c im
  · exact hk
  · rw [if_neg hk] at h; exact absurd h (by decide)
theorem sh_ok {m : Int} (h : 0 ≤ m ∧ m ≤ 31) : decide (0 ≤ IntKind.i64.wrap (16 * m)) = true := by rw [wrap_i64_in (by omega) (by omega)]; exact decide_eq_true (by omega)
theorem chk_no {op d n m a c im : Int} (h : (chkV op d n m a c im != 0) = true) {E F : Eff} : (if chkV op d n m a c im = 0 then E else F) = F := if_neg (bne_iff_ne.1 h)
theorem chk_ya {op d n m a c im : Int} (h : (chkV op d n m a c im != 0) = false) : chkV op d n m a c im = 0 := by simpa using h
theorem effK {u v : V} (h : u = v) : Res.ret u = Res.ret v := by rw [h]
set_option maxRecDepth 1000000 in
theorem do_eq_0 (d n m a c im pc : Int) (x : Nat → Int) (nf zf cf vf : Bool) (K : V → Prop) : callG Try.prog EDo 100 15 [insV 0 d n m a c im, .raw (.int .u64 pc), regs x nf zf cf vf] [] (doK K False) =
    Br (chkV 0 d n m a c im != 0) (K (effV (bad (norm x) nf zf cf vf pc))) (K (effV ⟨(norm x), nf, zf, cf, vf, w64 (pc + 4), 0, 0, false⟩)) := by kernel_rfl
set_option maxRecDepth 100000 in
theorem do_0 (d n m a c im pc : Int) (x : Nat → Int) (nf zf cf vf : Bool) : CallOk Try.prog 15 [insV 0 d n m a c im, .raw (.int .u64 pc), regs x nf zf cf vf] [] fun r _ => r = .ret (effV (doV 0 d n m a c im pc x nf zf cf vf)) := by
  refine (callG_ok EDo_ok names mixed (n := 100) (K := doK (fun v => Res.ret v = .ret (effV (doV 0 d n m a c im pc x nf zf cf vf))) False) ?_).mono doK_ok
  have hp := do_eq_0 d n m a c im pc x nf zf cf vf fun v => Res.ret v = .ret (effV (doV 0 d n m a c im pc x nf zf cf vf))
  refine hp.mpr ?_
  unfold doV
  cases h : (chkV 0 d n m a c im != 0)
  · rw [if_pos (chk_ya h)]
    try simp only [stkM_eq, subM_eq, divM_eq, norm_get]
    exact effK (eff_norm ..)
  · rw [chk_no h]
    exact effK (eff_norm ..)
set_option maxRecDepth 1000000 in
theorem do_eq_1 (d n m a c im pc : Int) (x : Nat → Int) (nf zf cf vf : Bool) (K : V → Prop) : callG Try.prog EDo 100 15 [insV 1 d n m a c im, .raw (.int .u64 pc), regs x nf zf cf vf] [] (doK K False) =
    Br (chkV 1 d n m a c im != 0) (K (effV (bad (norm x) nf zf cf vf pc))) (K (effV ⟨(norm x), nf, zf, cf, vf, w64 (pc + 4), 0, 0, false⟩)) := by kernel_rfl
set_option maxRecDepth 100000 in
theorem do_1 (d n m a c im pc : Int) (x : Nat → Int) (nf zf cf vf : Bool) : CallOk Try.prog 15 [insV 1 d n m a c im, .raw (.int .u64 pc), regs x nf zf cf vf] [] fun r _ => r = .ret (effV (doV 1 d n m a c im pc x nf zf cf vf)) := by
  refine (callG_ok EDo_ok names mixed (n := 100) (K := doK (fun v => Res.ret v = .ret (effV (doV 1 d n m a c im pc x nf zf cf vf))) False) ?_).mono doK_ok
  have hp := do_eq_1 d n m a c im pc x nf zf cf vf fun v => Res.ret v = .ret (effV (doV 1 d n m a c im pc x nf zf cf vf))
  refine hp.mpr ?_
  unfold doV
  cases h : (chkV 1 d n m a c im != 0)
  · rw [if_pos (chk_ya h)]
    try simp only [stkM_eq, subM_eq, divM_eq, norm_get]
    exact effK (eff_norm ..)
  · rw [chk_no h]
    exact effK (eff_norm ..)
set_option maxRecDepth 1000000 in
theorem do_eq_2 (d n m a c im pc : Int) (x : Nat → Int) (nf zf cf vf : Bool) (K : V → Prop) : callG Try.prog EDo 100 15 [insV 2 d n m a c im, .raw (.int .u64 pc), regs x nf zf cf vf] [] (doK K False) =
    Br (chkV 2 d n m a c im != 0) (K (effV (bad (norm x) nf zf cf vf pc))) (Br (decide (0 ≤ IntKind.i64.wrap (16 * m))) (K (effV ⟨setX (norm x) d (w64 (w64 im * shM m)), nf, zf, cf, vf, w64 (pc + 4), 0, 0, false⟩)) False) := by kernel_rfl
set_option maxRecDepth 100000 in
theorem do_2 (d n m a c im pc : Int) (x : Nat → Int) (nf zf cf vf : Bool) : CallOk Try.prog 15 [insV 2 d n m a c im, .raw (.int .u64 pc), regs x nf zf cf vf] [] fun r _ => r = .ret (effV (doV 2 d n m a c im pc x nf zf cf vf)) := by
  refine (callG_ok EDo_ok names mixed (n := 100) (K := doK (fun v => Res.ret v = .ret (effV (doV 2 d n m a c im pc x nf zf cf vf))) False) ?_).mono doK_ok
  have hp := do_eq_2 d n m a c im pc x nf zf cf vf fun v => Res.ret v = .ret (effV (doV 2 d n m a c im pc x nf zf cf vf))
  refine hp.mpr ?_
  unfold doV
  cases h : (chkV 2 d n m a c im != 0)
  · rw [if_pos (chk_ya h)]
    have hm : 0 ≤ m ∧ m ≤ 31 := (chk_okI (chk_ya h)).2.2.2.1
    rw [sh_ok hm]
    try simp only [stkM_eq, subM_eq, divM_eq, norm_get]
    exact effK (eff_set ..)
  · rw [chk_no h]
    exact effK (eff_norm ..)
set_option maxRecDepth 1000000 in
theorem do_eq_3 (d n m a c im pc : Int) (x : Nat → Int) (nf zf cf vf : Bool) (K : V → Prop) : callG Try.prog EDo 100 15 [insV 3 d n m a c im, .raw (.int .u64 pc), regs x nf zf cf vf] [] (doK K False) =
    Br (chkV 3 d n m a c im != 0) (K (effV (bad (norm x) nf zf cf vf pc))) (Br (decide (0 ≤ IntKind.i64.wrap (16 * m))) (Br (decide (0 ≤ IntKind.i64.wrap (16 * m))) (K (effV ⟨setX (norm x) d (Go.bits .or .u64 (Go.bits .andNot .u64 (getX (norm x) (d)) (w64 (65535 * shM m))) (w64 (w64 im * shM m))), nf, zf, cf, vf, w64 (pc + 4), 0, 0, false⟩)) False) False) := by kernel_rfl
set_option maxRecDepth 100000 in
theorem do_3 (d n m a c im pc : Int) (x : Nat → Int) (nf zf cf vf : Bool) : CallOk Try.prog 15 [insV 3 d n m a c im, .raw (.int .u64 pc), regs x nf zf cf vf] [] fun r _ => r = .ret (effV (doV 3 d n m a c im pc x nf zf cf vf)) := by
  refine (callG_ok EDo_ok names mixed (n := 100) (K := doK (fun v => Res.ret v = .ret (effV (doV 3 d n m a c im pc x nf zf cf vf))) False) ?_).mono doK_ok
  have hp := do_eq_3 d n m a c im pc x nf zf cf vf fun v => Res.ret v = .ret (effV (doV 3 d n m a c im pc x nf zf cf vf))
  refine hp.mpr ?_
  unfold doV
  cases h : (chkV 3 d n m a c im != 0)
  · rw [if_pos (chk_ya h)]
    have hm : 0 ≤ m ∧ m ≤ 31 := (chk_okI (chk_ya h)).2.2.2.1
    rw [sh_ok hm]
    try simp only [stkM_eq, subM_eq, divM_eq, norm_get]
    exact effK (eff_set ..)
  · rw [chk_no h]
    exact effK (eff_norm ..)
set_option maxRecDepth 1000000 in
theorem do_eq_4 (d n m a c im pc : Int) (x : Nat → Int) (nf zf cf vf : Bool) (K : V → Prop) : callG Try.prog EDo 100 15 [insV 4 d n m a c im, .raw (.int .u64 pc), regs x nf zf cf vf] [] (doK K False) =
    Br (chkV 4 d n m a c im != 0) (K (effV (bad (norm x) nf zf cf vf pc))) (stkM d fun d' => stkM n fun n' => K (effV ⟨setX (norm x) d' (w64 (getX (norm x) (n') + w64 im)), nf, zf, cf, vf, w64 (pc + 4), 0, 0, false⟩)) := by kernel_rfl
set_option maxRecDepth 100000 in
theorem do_4 (d n m a c im pc : Int) (x : Nat → Int) (nf zf cf vf : Bool) : CallOk Try.prog 15 [insV 4 d n m a c im, .raw (.int .u64 pc), regs x nf zf cf vf] [] fun r _ => r = .ret (effV (doV 4 d n m a c im pc x nf zf cf vf)) := by
  refine (callG_ok EDo_ok names mixed (n := 100) (K := doK (fun v => Res.ret v = .ret (effV (doV 4 d n m a c im pc x nf zf cf vf))) False) ?_).mono doK_ok
  have hp := do_eq_4 d n m a c im pc x nf zf cf vf fun v => Res.ret v = .ret (effV (doV 4 d n m a c im pc x nf zf cf vf))
  refine hp.mpr ?_
  unfold doV
  cases h : (chkV 4 d n m a c im != 0)
  · rw [if_pos (chk_ya h)]
    try simp only [stkM_eq, subM_eq, divM_eq, norm_get]
    exact effK (eff_set ..)
  · rw [chk_no h]
    exact effK (eff_norm ..)
set_option maxRecDepth 1000000 in
theorem do_eq_5 (d n m a c im pc : Int) (x : Nat → Int) (nf zf cf vf : Bool) (K : V → Prop) : callG Try.prog EDo 100 15 [insV 5 d n m a c im, .raw (.int .u64 pc), regs x nf zf cf vf] [] (doK K False) =
    Br (chkV 5 d n m a c im != 0) (K (effV (bad (norm x) nf zf cf vf pc))) (stkM d fun d' => stkM n fun n' => K (effV ⟨setX (norm x) d' (w64 (getX (norm x) (n') - w64 im)), nf, zf, cf, vf, w64 (pc + 4), 0, 0, false⟩)) := by kernel_rfl
set_option maxRecDepth 100000 in
theorem do_5 (d n m a c im pc : Int) (x : Nat → Int) (nf zf cf vf : Bool) : CallOk Try.prog 15 [insV 5 d n m a c im, .raw (.int .u64 pc), regs x nf zf cf vf] [] fun r _ => r = .ret (effV (doV 5 d n m a c im pc x nf zf cf vf)) := by
  refine (callG_ok EDo_ok names mixed (n := 100) (K := doK (fun v => Res.ret v = .ret (effV (doV 5 d n m a c im pc x nf zf cf vf))) False) ?_).mono doK_ok
  have hp := do_eq_5 d n m a c im pc x nf zf cf vf fun v => Res.ret v = .ret (effV (doV 5 d n m a c im pc x nf zf cf vf))
  refine hp.mpr ?_
  unfold doV
  cases h : (chkV 5 d n m a c im != 0)
  · rw [if_pos (chk_ya h)]
    try simp only [stkM_eq, subM_eq, divM_eq, norm_get]
    exact effK (eff_set ..)
  · rw [chk_no h]
    exact effK (eff_norm ..)
set_option maxRecDepth 1000000 in
theorem do_eq_6 (d n m a c im pc : Int) (x : Nat → Int) (nf zf cf vf : Bool) (K : V → Prop) : callG Try.prog EDo 100 15 [insV 6 d n m a c im, .raw (.int .u64 pc), regs x nf zf cf vf] [] (doK K False) =
    Br (chkV 6 d n m a c im != 0) (K (effV (bad (norm x) nf zf cf vf pc))) (stkM n fun n' => subM (getX (norm x) (n')) (w64 im) fun c' => K (effV ⟨setX (norm x) d (subU (getX (norm x) (n')) (w64 im)), subN (getX (norm x) (n')) (w64 im), subU (getX (norm x) (n')) (w64 im) == 0, c', subV (getX (norm x) (n')) (w64 im), w64 (pc + 4), 0, 0, false⟩)) := by kernel_rfl
set_option maxRecDepth 100000 in
theorem do_6 (d n m a c im pc : Int) (x : Nat → Int) (nf zf cf vf : Bool) : CallOk Try.prog 15 [insV 6 d n m a c im, .raw (.int .u64 pc), regs x nf zf cf vf] [] fun r _ => r = .ret (effV (doV 6 d n m a c im pc x nf zf cf vf)) := by
  refine (callG_ok EDo_ok names mixed (n := 100) (K := doK (fun v => Res.ret v = .ret (effV (doV 6 d n m a c im pc x nf zf cf vf))) False) ?_).mono doK_ok
  have hp := do_eq_6 d n m a c im pc x nf zf cf vf fun v => Res.ret v = .ret (effV (doV 6 d n m a c im pc x nf zf cf vf))
  refine hp.mpr ?_
  unfold doV
  cases h : (chkV 6 d n m a c im != 0)
  · rw [if_pos (chk_ya h)]
    try simp only [stkM_eq, subM_eq, divM_eq, norm_get]
    exact effK (eff_set ..)
  · rw [chk_no h]
    exact effK (eff_norm ..)
set_option maxRecDepth 1000000 in
theorem do_eq_7 (d n m a c im pc : Int) (x : Nat → Int) (nf zf cf vf : Bool) (K : V → Prop) : callG Try.prog EDo 100 15 [insV 7 d n m a c im, .raw (.int .u64 pc), regs x nf zf cf vf] [] (doK K False) =
    Br (chkV 7 d n m a c im != 0) (K (effV (bad (norm x) nf zf cf vf pc))) (K (effV ⟨setX (norm x) d (w64 (getX (norm x) (n) + getX (norm x) (m))), nf, zf, cf, vf, w64 (pc + 4), 0, 0, false⟩)) := by kernel_rfl
set_option maxRecDepth 100000 in
theorem do_7 (d n m a c im pc : Int) (x : Nat → Int) (nf zf cf vf : Bool) : CallOk Try.prog 15 [insV 7 d n m a c im, .raw (.int .u64 pc), regs x nf zf cf vf] [] fun r _ => r = .ret (effV (doV 7 d n m a c im pc x nf zf cf vf)) := by
  refine (callG_ok EDo_ok names mixed (n := 100) (K := doK (fun v => Res.ret v = .ret (effV (doV 7 d n m a c im pc x nf zf cf vf))) False) ?_).mono doK_ok
  have hp := do_eq_7 d n m a c im pc x nf zf cf vf fun v => Res.ret v = .ret (effV (doV 7 d n m a c im pc x nf zf cf vf))
  refine hp.mpr ?_
  unfold doV
  cases h : (chkV 7 d n m a c im != 0)
  · rw [if_pos (chk_ya h)]
    try simp only [stkM_eq, subM_eq, divM_eq, norm_get]
    exact effK (eff_set ..)
  · rw [chk_no h]
    exact effK (eff_norm ..)
set_option maxRecDepth 1000000 in
theorem do_eq_8 (d n m a c im pc : Int) (x : Nat → Int) (nf zf cf vf : Bool) (K : V → Prop) : callG Try.prog EDo 100 15 [insV 8 d n m a c im, .raw (.int .u64 pc), regs x nf zf cf vf] [] (doK K False) =
    Br (chkV 8 d n m a c im != 0) (K (effV (bad (norm x) nf zf cf vf pc))) (K (effV ⟨setX (norm x) d (w64 (getX (norm x) (n) - getX (norm x) (m))), nf, zf, cf, vf, w64 (pc + 4), 0, 0, false⟩)) := by kernel_rfl
set_option maxRecDepth 100000 in
theorem do_8 (d n m a c im pc : Int) (x : Nat → Int) (nf zf cf vf : Bool) : CallOk Try.prog 15 [insV 8 d n m a c im, .raw (.int .u64 pc), regs x nf zf cf vf] [] fun r _ => r = .ret (effV (doV 8 d n m a c im pc x nf zf cf vf)) := by
  refine (callG_ok EDo_ok names mixed (n := 100) (K := doK (fun v => Res.ret v = .ret (effV (doV 8 d n m a c im pc x nf zf cf vf))) False) ?_).mono doK_ok
  have hp := do_eq_8 d n m a c im pc x nf zf cf vf fun v => Res.ret v = .ret (effV (doV 8 d n m a c im pc x nf zf cf vf))
  refine hp.mpr ?_
  unfold doV
  cases h : (chkV 8 d n m a c im != 0)
  · rw [if_pos (chk_ya h)]
    try simp only [stkM_eq, subM_eq, divM_eq, norm_get]
    exact effK (eff_set ..)
  · rw [chk_no h]
    exact effK (eff_norm ..)
set_option maxRecDepth 1000000 in
theorem do_eq_9 (d n m a c im pc : Int) (x : Nat → Int) (nf zf cf vf : Bool) (K : V → Prop) : callG Try.prog EDo 100 15 [insV 9 d n m a c im, .raw (.int .u64 pc), regs x nf zf cf vf] [] (doK K False) =
    Br (chkV 9 d n m a c im != 0) (K (effV (bad (norm x) nf zf cf vf pc))) (subM (getX (norm x) (n)) (getX (norm x) (m)) fun c' => K (effV ⟨setX (norm x) d (subU (getX (norm x) (n)) (getX (norm x) (m))), subN (getX (norm x) (n)) (getX (norm x) (m)), subU (getX (norm x) (n)) (getX (norm x) (m)) == 0, c', subV (getX (norm x) (n)) (getX (norm x) (m)), w64 (pc + 4), 0, 0, false⟩)) := by kernel_rfl
set_option maxRecDepth 100000 in
theorem do_9 (d n m a c im pc : Int) (x : Nat → Int) (nf zf cf vf : Bool) : CallOk Try.prog 15 [insV 9 d n m a c im, .raw (.int .u64 pc), regs x nf zf cf vf] [] fun r _ => r = .ret (effV (doV 9 d n m a c im pc x nf zf cf vf)) := by
  refine (callG_ok EDo_ok names mixed (n := 100) (K := doK (fun v => Res.ret v = .ret (effV (doV 9 d n m a c im pc x nf zf cf vf))) False) ?_).mono doK_ok
  have hp := do_eq_9 d n m a c im pc x nf zf cf vf fun v => Res.ret v = .ret (effV (doV 9 d n m a c im pc x nf zf cf vf))
  refine hp.mpr ?_
  unfold doV
  cases h : (chkV 9 d n m a c im != 0)
  · rw [if_pos (chk_ya h)]
    try simp only [stkM_eq, subM_eq, divM_eq, norm_get]
    exact effK (eff_set ..)
  · rw [chk_no h]
    exact effK (eff_norm ..)
set_option maxRecDepth 1000000 in
theorem do_eq_10 (d n m a c im pc : Int) (x : Nat → Int) (nf zf cf vf : Bool) (K : V → Prop) : callG Try.prog EDo 100 15 [insV 10 d n m a c im, .raw (.int .u64 pc), regs x nf zf cf vf] [] (doK K False) =
    Br (chkV 10 d n m a c im != 0) (K (effV (bad (norm x) nf zf cf vf pc))) (K (effV ⟨setX (norm x) d (Go.bits .and .u64 (getX (norm x) (n)) (getX (norm x) (m))), nf, zf, cf, vf, w64 (pc + 4), 0, 0, false⟩)) := by kernel_rfl
set_option maxRecDepth 100000 in
theorem do_10 (d n m a c im pc : Int) (x : Nat → Int) (nf zf cf vf : Bool) : CallOk Try.prog 15 [insV 10 d n m a c im, .raw (.int .u64 pc), regs x nf zf cf vf] [] fun r _ => r = .ret (effV (doV 10 d n m a c im pc x nf zf cf vf)) := by
  refine (callG_ok EDo_ok names mixed (n := 100) (K := doK (fun v => Res.ret v = .ret (effV (doV 10 d n m a c im pc x nf zf cf vf))) False) ?_).mono doK_ok
  have hp := do_eq_10 d n m a c im pc x nf zf cf vf fun v => Res.ret v = .ret (effV (doV 10 d n m a c im pc x nf zf cf vf))
  refine hp.mpr ?_
  unfold doV
  cases h : (chkV 10 d n m a c im != 0)
  · rw [if_pos (chk_ya h)]
    try simp only [stkM_eq, subM_eq, divM_eq, norm_get]
    exact effK (eff_set ..)
  · rw [chk_no h]
    exact effK (eff_norm ..)
set_option maxRecDepth 1000000 in
theorem do_eq_11 (d n m a c im pc : Int) (x : Nat → Int) (nf zf cf vf : Bool) (K : V → Prop) : callG Try.prog EDo 100 15 [insV 11 d n m a c im, .raw (.int .u64 pc), regs x nf zf cf vf] [] (doK K False) =
    Br (chkV 11 d n m a c im != 0) (K (effV (bad (norm x) nf zf cf vf pc))) (K (effV ⟨setX (norm x) d (Go.bits .or .u64 (getX (norm x) (n)) (getX (norm x) (m))), nf, zf, cf, vf, w64 (pc + 4), 0, 0, false⟩)) := by kernel_rfl
set_option maxRecDepth 100000 in
theorem do_11 (d n m a c im pc : Int) (x : Nat → Int) (nf zf cf vf : Bool) : CallOk Try.prog 15 [insV 11 d n m a c im, .raw (.int .u64 pc), regs x nf zf cf vf] [] fun r _ => r = .ret (effV (doV 11 d n m a c im pc x nf zf cf vf)) := by
  refine (callG_ok EDo_ok names mixed (n := 100) (K := doK (fun v => Res.ret v = .ret (effV (doV 11 d n m a c im pc x nf zf cf vf))) False) ?_).mono doK_ok
  have hp := do_eq_11 d n m a c im pc x nf zf cf vf fun v => Res.ret v = .ret (effV (doV 11 d n m a c im pc x nf zf cf vf))
  refine hp.mpr ?_
  unfold doV
  cases h : (chkV 11 d n m a c im != 0)
  · rw [if_pos (chk_ya h)]
    try simp only [stkM_eq, subM_eq, divM_eq, norm_get]
    exact effK (eff_set ..)
  · rw [chk_no h]
    exact effK (eff_norm ..)
set_option maxRecDepth 1000000 in
theorem do_eq_12 (d n m a c im pc : Int) (x : Nat → Int) (nf zf cf vf : Bool) (K : V → Prop) : callG Try.prog EDo 100 15 [insV 12 d n m a c im, .raw (.int .u64 pc), regs x nf zf cf vf] [] (doK K False) =
    Br (chkV 12 d n m a c im != 0) (K (effV (bad (norm x) nf zf cf vf pc))) (K (effV ⟨setX (norm x) d (Go.bits .xor .u64 (getX (norm x) (n)) (getX (norm x) (m))), nf, zf, cf, vf, w64 (pc + 4), 0, 0, false⟩)) := by kernel_rfl
set_option maxRecDepth 100000 in
theorem do_12 (d n m a c im pc : Int) (x : Nat → Int) (nf zf cf vf : Bool) : CallOk Try.prog 15 [insV 12 d n m a c im, .raw (.int .u64 pc), regs x nf zf cf vf] [] fun r _ => r = .ret (effV (doV 12 d n m a c im pc x nf zf cf vf)) := by
  refine (callG_ok EDo_ok names mixed (n := 100) (K := doK (fun v => Res.ret v = .ret (effV (doV 12 d n m a c im pc x nf zf cf vf))) False) ?_).mono doK_ok
  have hp := do_eq_12 d n m a c im pc x nf zf cf vf fun v => Res.ret v = .ret (effV (doV 12 d n m a c im pc x nf zf cf vf))
  refine hp.mpr ?_
  unfold doV
  cases h : (chkV 12 d n m a c im != 0)
  · rw [if_pos (chk_ya h)]
    try simp only [stkM_eq, subM_eq, divM_eq, norm_get]
    exact effK (eff_set ..)
  · rw [chk_no h]
    exact effK (eff_norm ..)
set_option maxRecDepth 1000000 in
theorem do_eq_13 (d n m a c im pc : Int) (x : Nat → Int) (nf zf cf vf : Bool) (K : V → Prop) : callG Try.prog EDo 100 15 [insV 13 d n m a c im, .raw (.int .u64 pc), regs x nf zf cf vf] [] (doK K False) =
    Br (chkV 13 d n m a c im != 0) (K (effV (bad (norm x) nf zf cf vf pc))) (K (effV ⟨setX (norm x) d (w64 (getX (norm x) (a) + w64 (getX (norm x) (n) * getX (norm x) (m)))), nf, zf, cf, vf, w64 (pc + 4), 0, 0, false⟩)) := by kernel_rfl
set_option maxRecDepth 100000 in
theorem do_13 (d n m a c im pc : Int) (x : Nat → Int) (nf zf cf vf : Bool) : CallOk Try.prog 15 [insV 13 d n m a c im, .raw (.int .u64 pc), regs x nf zf cf vf] [] fun r _ => r = .ret (effV (doV 13 d n m a c im pc x nf zf cf vf)) := by
  refine (callG_ok EDo_ok names mixed (n := 100) (K := doK (fun v => Res.ret v = .ret (effV (doV 13 d n m a c im pc x nf zf cf vf))) False) ?_).mono doK_ok
  have hp := do_eq_13 d n m a c im pc x nf zf cf vf fun v => Res.ret v = .ret (effV (doV 13 d n m a c im pc x nf zf cf vf))
  refine hp.mpr ?_
  unfold doV
  cases h : (chkV 13 d n m a c im != 0)
  · rw [if_pos (chk_ya h)]
    try simp only [stkM_eq, subM_eq, divM_eq, norm_get]
    exact effK (eff_set ..)
  · rw [chk_no h]
    exact effK (eff_norm ..)
set_option maxRecDepth 1000000 in
theorem do_eq_14 (d n m a c im pc : Int) (x : Nat → Int) (nf zf cf vf : Bool) (K : V → Prop) : callG Try.prog EDo 100 15 [insV 14 d n m a c im, .raw (.int .u64 pc), regs x nf zf cf vf] [] (doK K False) =
    Br (chkV 14 d n m a c im != 0) (K (effV (bad (norm x) nf zf cf vf pc))) (K (effV ⟨setX (norm x) d (w64 (getX (norm x) (a) - w64 (getX (norm x) (n) * getX (norm x) (m)))), nf, zf, cf, vf, w64 (pc + 4), 0, 0, false⟩)) := by kernel_rfl
set_option maxRecDepth 100000 in
theorem do_14 (d n m a c im pc : Int) (x : Nat → Int) (nf zf cf vf : Bool) : CallOk Try.prog 15 [insV 14 d n m a c im, .raw (.int .u64 pc), regs x nf zf cf vf] [] fun r _ => r = .ret (effV (doV 14 d n m a c im pc x nf zf cf vf)) := by
  refine (callG_ok EDo_ok names mixed (n := 100) (K := doK (fun v => Res.ret v = .ret (effV (doV 14 d n m a c im pc x nf zf cf vf))) False) ?_).mono doK_ok
  have hp := do_eq_14 d n m a c im pc x nf zf cf vf fun v => Res.ret v = .ret (effV (doV 14 d n m a c im pc x nf zf cf vf))
  refine hp.mpr ?_
  unfold doV
  cases h : (chkV 14 d n m a c im != 0)
  · rw [if_pos (chk_ya h)]
    try simp only [stkM_eq, subM_eq, divM_eq, norm_get]
    exact effK (eff_set ..)
  · rw [chk_no h]
    exact effK (eff_norm ..)
set_option maxRecDepth 1000000 in
theorem do_eq_15 (d n m a c im pc : Int) (x : Nat → Int) (nf zf cf vf : Bool) (K : V → Prop) : callG Try.prog EDo 100 15 [insV 15 d n m a c im, .raw (.int .u64 pc), regs x nf zf cf vf] [] (doK K False) =
    Br (chkV 15 d n m a c im != 0) (K (effV (bad (norm x) nf zf cf vf pc))) (divM (getX (norm x) (n)) (getX (norm x) (m)) fun v => K (effV ⟨setX (norm x) d (v), nf, zf, cf, vf, w64 (pc + 4), 0, 0, false⟩)) := by kernel_rfl
set_option maxRecDepth 100000 in
theorem do_15 (d n m a c im pc : Int) (x : Nat → Int) (nf zf cf vf : Bool) : CallOk Try.prog 15 [insV 15 d n m a c im, .raw (.int .u64 pc), regs x nf zf cf vf] [] fun r _ => r = .ret (effV (doV 15 d n m a c im pc x nf zf cf vf)) := by
  refine (callG_ok EDo_ok names mixed (n := 100) (K := doK (fun v => Res.ret v = .ret (effV (doV 15 d n m a c im pc x nf zf cf vf))) False) ?_).mono doK_ok
  have hp := do_eq_15 d n m a c im pc x nf zf cf vf fun v => Res.ret v = .ret (effV (doV 15 d n m a c im pc x nf zf cf vf))
  refine hp.mpr ?_
  unfold doV
  cases h : (chkV 15 d n m a c im != 0)
  · rw [if_pos (chk_ya h)]
    try simp only [stkM_eq, subM_eq, divM_eq, norm_get]
    exact effK (eff_set ..)
  · rw [chk_no h]
    exact effK (eff_norm ..)
set_option maxRecDepth 1000000 in
theorem do_eq_16 (d n m a c im pc : Int) (x : Nat → Int) (nf zf cf vf : Bool) (K : V → Prop) : callG Try.prog EDo 100 15 [insV 16 d n m a c im, .raw (.int .u64 pc), regs x nf zf cf vf] [] (doK K False) =
    Br (chkV 16 d n m a c im != 0) (K (effV (bad (norm x) nf zf cf vf pc))) (K (effV ⟨setX (norm x) d (w64 (getX (norm x) (n) * sh63 (getX (norm x) (m)))), nf, zf, cf, vf, w64 (pc + 4), 0, 0, false⟩)) := by kernel_rfl
set_option maxRecDepth 100000 in
theorem do_16 (d n m a c im pc : Int) (x : Nat → Int) (nf zf cf vf : Bool) : CallOk Try.prog 15 [insV 16 d n m a c im, .raw (.int .u64 pc), regs x nf zf cf vf] [] fun r _ => r = .ret (effV (doV 16 d n m a c im pc x nf zf cf vf)) := by
  refine (callG_ok EDo_ok names mixed (n := 100) (K := doK (fun v => Res.ret v = .ret (effV (doV 16 d n m a c im pc x nf zf cf vf))) False) ?_).mono doK_ok
  have hp := do_eq_16 d n m a c im pc x nf zf cf vf fun v => Res.ret v = .ret (effV (doV 16 d n m a c im pc x nf zf cf vf))
  refine hp.mpr ?_
  unfold doV
  cases h : (chkV 16 d n m a c im != 0)
  · rw [if_pos (chk_ya h)]
    try simp only [stkM_eq, subM_eq, divM_eq, norm_get]
    exact effK (eff_set ..)
  · rw [chk_no h]
    exact effK (eff_norm ..)
set_option maxRecDepth 1000000 in
theorem do_eq_17 (d n m a c im pc : Int) (x : Nat → Int) (nf zf cf vf : Bool) (K : V → Prop) : callG Try.prog EDo 100 15 [insV 17 d n m a c im, .raw (.int .u64 pc), regs x nf zf cf vf] [] (doK K False) =
    Br (chkV 17 d n m a c im != 0) (K (effV (bad (norm x) nf zf cf vf pc))) (K (effV ⟨setX (norm x) d ((getX (norm x) (n)).fdiv (sh63 (getX (norm x) (m)))), nf, zf, cf, vf, w64 (pc + 4), 0, 0, false⟩)) := by kernel_rfl
set_option maxRecDepth 100000 in
theorem do_17 (d n m a c im pc : Int) (x : Nat → Int) (nf zf cf vf : Bool) : CallOk Try.prog 15 [insV 17 d n m a c im, .raw (.int .u64 pc), regs x nf zf cf vf] [] fun r _ => r = .ret (effV (doV 17 d n m a c im pc x nf zf cf vf)) := by
  refine (callG_ok EDo_ok names mixed (n := 100) (K := doK (fun v => Res.ret v = .ret (effV (doV 17 d n m a c im pc x nf zf cf vf))) False) ?_).mono doK_ok
  have hp := do_eq_17 d n m a c im pc x nf zf cf vf fun v => Res.ret v = .ret (effV (doV 17 d n m a c im pc x nf zf cf vf))
  refine hp.mpr ?_
  unfold doV
  cases h : (chkV 17 d n m a c im != 0)
  · rw [if_pos (chk_ya h)]
    try simp only [stkM_eq, subM_eq, divM_eq, norm_get]
    exact effK (eff_set ..)
  · rw [chk_no h]
    exact effK (eff_norm ..)
set_option maxRecDepth 1000000 in
theorem do_eq_18 (d n m a c im pc : Int) (x : Nat → Int) (nf zf cf vf : Bool) (K : V → Prop) : callG Try.prog EDo 100 15 [insV 18 d n m a c im, .raw (.int .u64 pc), regs x nf zf cf vf] [] (doK K False) =
    Br (chkV 18 d n m a c im != 0) (K (effV (bad (norm x) nf zf cf vf pc))) (K (effV ⟨setX (norm x) d (w64 ((IntKind.i64.wrap (getX (norm x) (n))).fdiv (sh63 (getX (norm x) (m))))), nf, zf, cf, vf, w64 (pc + 4), 0, 0, false⟩)) := by kernel_rfl
set_option maxRecDepth 100000 in
theorem do_18 (d n m a c im pc : Int) (x : Nat → Int) (nf zf cf vf : Bool) : CallOk Try.prog 15 [insV 18 d n m a c im, .raw (.int .u64 pc), regs x nf zf cf vf] [] fun r _ => r = .ret (effV (doV 18 d n m a c im pc x nf zf cf vf)) := by
  refine (callG_ok EDo_ok names mixed (n := 100) (K := doK (fun v => Res.ret v = .ret (effV (doV 18 d n m a c im pc x nf zf cf vf))) False) ?_).mono doK_ok
  have hp := do_eq_18 d n m a c im pc x nf zf cf vf fun v => Res.ret v = .ret (effV (doV 18 d n m a c im pc x nf zf cf vf))
  refine hp.mpr ?_
  unfold doV
  cases h : (chkV 18 d n m a c im != 0)
  · rw [if_pos (chk_ya h)]
    try simp only [stkM_eq, subM_eq, divM_eq, norm_get]
    exact effK (eff_set ..)
  · rw [chk_no h]
    exact effK (eff_norm ..)
set_option maxRecDepth 1000000 in
theorem do_eq_19 (d n m a c im pc : Int) (x : Nat → Int) (nf zf cf vf : Bool) (K : V → Prop) : callG Try.prog EDo 100 15 [insV 19 d n m a c im, .raw (.int .u64 pc), regs x nf zf cf vf] [] (doK K False) =
    Br (chkV 19 d n m a c im != 0) (K (effV (bad (norm x) nf zf cf vf pc))) (Br (holdsX c nf zf cf vf) (K (effV ⟨setX (norm x) d (getX (norm x) (n)), nf, zf, cf, vf, w64 (pc + 4), 0, 0, false⟩)) (K (effV ⟨setX (norm x) d (w64 (getX (norm x) (m) + 1)), nf, zf, cf, vf, w64 (pc + 4), 0, 0, false⟩))) := by kernel_rfl
set_option maxRecDepth 100000 in
theorem do_19 (d n m a c im pc : Int) (x : Nat → Int) (nf zf cf vf : Bool) : CallOk Try.prog 15 [insV 19 d n m a c im, .raw (.int .u64 pc), regs x nf zf cf vf] [] fun r _ => r = .ret (effV (doV 19 d n m a c im pc x nf zf cf vf)) := by
  refine (callG_ok EDo_ok names mixed (n := 100) (K := doK (fun v => Res.ret v = .ret (effV (doV 19 d n m a c im pc x nf zf cf vf))) False) ?_).mono doK_ok
  have hp := do_eq_19 d n m a c im pc x nf zf cf vf fun v => Res.ret v = .ret (effV (doV 19 d n m a c im pc x nf zf cf vf))
  refine hp.mpr ?_
  unfold doV
  cases h : (chkV 19 d n m a c im != 0)
  · rw [if_pos (chk_ya h)]
    try simp only [stkM_eq, subM_eq, divM_eq, norm_get]
    cases h2 : holdsX c nf zf cf vf
    all_goals
      refine effK ((eff_set ..).trans ?_)
      show _ = effV ⟨setX x d (match holdsX c nf zf cf vf with | true => getX x n | false => w64 (getX x m + 1)), _, _, _, _, _, _, _, _⟩
      rw [h2]
  · rw [chk_no h]
    exact effK (eff_norm ..)
set_option maxRecDepth 1000000 in
theorem do_eq_20 (d n m a c im pc : Int) (x : Nat → Int) (nf zf cf vf : Bool) (K : V → Prop) : callG Try.prog EDo 100 15 [insV 20 d n m a c im, .raw (.int .u64 pc), regs x nf zf cf vf] [] (doK K False) =
    Br (chkV 20 d n m a c im != 0) (K (effV (bad (norm x) nf zf cf vf pc))) (K (effV ⟨(norm x), nf, zf, cf, vf, w64 (pc + w64 im), 0, 0, false⟩)) := by kernel_rfl
set_option maxRecDepth 100000 in
theorem do_20 (d n m a c im pc : Int) (x : Nat → Int) (nf zf cf vf : Bool) : CallOk Try.prog 15 [insV 20 d n m a c im, .raw (.int .u64 pc), regs x nf zf cf vf] [] fun r _ => r = .ret (effV (doV 20 d n m a c im pc x nf zf cf vf)) := by
  refine (callG_ok EDo_ok names mixed (n := 100) (K := doK (fun v => Res.ret v = .ret (effV (doV 20 d n m a c im pc x nf zf cf vf))) False) ?_).mono doK_ok
  have hp := do_eq_20 d n m a c im pc x nf zf cf vf fun v => Res.ret v = .ret (effV (doV 20 d n m a c im pc x nf zf cf vf))
  refine hp.mpr ?_
  unfold doV
  cases h : (chkV 20 d n m a c im != 0)
  · rw [if_pos (chk_ya h)]
    try simp only [stkM_eq, subM_eq, divM_eq, norm_get]
    exact effK (eff_norm ..)
  · rw [chk_no h]
    exact effK (eff_norm ..)
set_option maxRecDepth 1000000 in
theorem do_eq_21 (d n m a c im pc : Int) (x : Nat → Int) (nf zf cf vf : Bool) (K : V → Prop) : callG Try.prog EDo 100 15 [insV 21 d n m a c im, .raw (.int .u64 pc), regs x nf zf cf vf] [] (doK K False) =
    Br (chkV 21 d n m a c im != 0) (K (effV (bad (norm x) nf zf cf vf pc))) (Br (holdsX c nf zf cf vf) (K (effV ⟨(norm x), nf, zf, cf, vf, w64 (pc + w64 im), 0, 0, false⟩)) (K (effV ⟨(norm x), nf, zf, cf, vf, w64 (pc + 4), 0, 0, false⟩))) := by kernel_rfl
set_option maxRecDepth 100000 in
theorem do_21 (d n m a c im pc : Int) (x : Nat → Int) (nf zf cf vf : Bool) : CallOk Try.prog 15 [insV 21 d n m a c im, .raw (.int .u64 pc), regs x nf zf cf vf] [] fun r _ => r = .ret (effV (doV 21 d n m a c im pc x nf zf cf vf)) := by
  refine (callG_ok EDo_ok names mixed (n := 100) (K := doK (fun v => Res.ret v = .ret (effV (doV 21 d n m a c im pc x nf zf cf vf))) False) ?_).mono doK_ok
  have hp := do_eq_21 d n m a c im pc x nf zf cf vf fun v => Res.ret v = .ret (effV (doV 21 d n m a c im pc x nf zf cf vf))
  refine hp.mpr ?_
  unfold doV
  cases h : (chkV 21 d n m a c im != 0)
  · rw [if_pos (chk_ya h)]
    try simp only [stkM_eq, subM_eq, divM_eq, norm_get]
    rw [br_K (holdsX c nf zf cf vf) (effV ⟨norm x, nf, zf, cf, vf, w64 (pc + w64 im), 0, 0, false⟩) (effV ⟨norm x, nf, zf, cf, vf, w64 (pc + 4), 0, 0, false⟩) fun v => Res.ret v = _]
    refine effK ?_
    show _ = effV ⟨x, nf, zf, cf, vf, (match holdsX c nf zf cf vf with | true => w64 (pc + w64 im) | false => w64 (pc + 4)), 0, 0, false⟩
    cases (holdsX c nf zf cf vf)
    all_goals exact eff_norm ..
  · rw [chk_no h]
    exact effK (eff_norm ..)
set_option maxRecDepth 1000000 in
theorem do_eq_22 (d n m a c im pc : Int) (x : Nat → Int) (nf zf cf vf : Bool) (K : V → Prop) : callG Try.prog EDo 100 15 [insV 22 d n m a c im, .raw (.int .u64 pc), regs x nf zf cf vf] [] (doK K False) =
    Br (chkV 22 d n m a c im != 0) (K (effV (bad (norm x) nf zf cf vf pc))) (Br (getX (norm x) (d) == 0) (K (effV ⟨(norm x), nf, zf, cf, vf, w64 (pc + w64 im), 0, 0, false⟩)) (K (effV ⟨(norm x), nf, zf, cf, vf, w64 (pc + 4), 0, 0, false⟩))) := by kernel_rfl
set_option maxRecDepth 100000 in
theorem do_22 (d n m a c im pc : Int) (x : Nat → Int) (nf zf cf vf : Bool) : CallOk Try.prog 15 [insV 22 d n m a c im, .raw (.int .u64 pc), regs x nf zf cf vf] [] fun r _ => r = .ret (effV (doV 22 d n m a c im pc x nf zf cf vf)) := by
  refine (callG_ok EDo_ok names mixed (n := 100) (K := doK (fun v => Res.ret v = .ret (effV (doV 22 d n m a c im pc x nf zf cf vf))) False) ?_).mono doK_ok
  have hp := do_eq_22 d n m a c im pc x nf zf cf vf fun v => Res.ret v = .ret (effV (doV 22 d n m a c im pc x nf zf cf vf))
  refine hp.mpr ?_
  unfold doV
  cases h : (chkV 22 d n m a c im != 0)
  · rw [if_pos (chk_ya h)]
    try simp only [stkM_eq, subM_eq, divM_eq, norm_get]
    rw [br_K (getX x d == 0) (effV ⟨norm x, nf, zf, cf, vf, w64 (pc + w64 im), 0, 0, false⟩) (effV ⟨norm x, nf, zf, cf, vf, w64 (pc + 4), 0, 0, false⟩) fun v => Res.ret v = _]
    refine effK ?_
    show _ = effV ⟨x, nf, zf, cf, vf, (match getX x d == 0 with | true => w64 (pc + w64 im) | false => w64 (pc + 4)), 0, 0, false⟩
    cases (getX x d == 0)
    all_goals exact eff_norm ..
  · rw [chk_no h]
    exact effK (eff_norm ..)
set_option maxRecDepth 1000000 in
theorem do_eq_23 (d n m a c im pc : Int) (x : Nat → Int) (nf zf cf vf : Bool) (K : V → Prop) : callG Try.prog EDo 100 15 [insV 23 d n m a c im, .raw (.int .u64 pc), regs x nf zf cf vf] [] (doK K False) =
    Br (chkV 23 d n m a c im != 0) (K (effV (bad (norm x) nf zf cf vf pc))) (Br (getX (norm x) (d) != 0) (K (effV ⟨(norm x), nf, zf, cf, vf, w64 (pc + w64 im), 0, 0, false⟩)) (K (effV ⟨(norm x), nf, zf, cf, vf, w64 (pc + 4), 0, 0, false⟩))) := by kernel_rfl
set_option maxRecDepth 100000 in
theorem do_23 (d n m a c im pc : Int) (x : Nat → Int) (nf zf cf vf : Bool) : CallOk Try.prog 15 [insV 23 d n m a c im, .raw (.int .u64 pc), regs x nf zf cf vf] [] fun r _ => r = .ret (effV (doV 23 d n m a c im pc x nf zf cf vf)) := by
  refine (callG_ok EDo_ok names mixed (n := 100) (K := doK (fun v => Res.ret v = .ret (effV (doV 23 d n m a c im pc x nf zf cf vf))) False) ?_).mono doK_ok
  have hp := do_eq_23 d n m a c im pc x nf zf cf vf fun v => Res.ret v = .ret (effV (doV 23 d n m a c im pc x nf zf cf vf))
  refine hp.mpr ?_
  unfold doV
  cases h : (chkV 23 d n m a c im != 0)
  · rw [if_pos (chk_ya h)]
    try simp only [stkM_eq, subM_eq, divM_eq, norm_get]
    rw [br_K (getX x d != 0) (effV ⟨norm x, nf, zf, cf, vf, w64 (pc + w64 im), 0, 0, false⟩) (effV ⟨norm x, nf, zf, cf, vf, w64 (pc + 4), 0, 0, false⟩) fun v => Res.ret v = _]
    refine effK ?_
    show _ = effV ⟨x, nf, zf, cf, vf, (match getX x d != 0 with | true => w64 (pc + w64 im) | false => w64 (pc + 4)), 0, 0, false⟩
    cases (getX x d != 0)
    all_goals exact eff_norm ..
  · rw [chk_no h]
    exact effK (eff_norm ..)
set_option maxRecDepth 1000000 in
theorem do_eq_24 (d n m a c im pc : Int) (x : Nat → Int) (nf zf cf vf : Bool) (K : V → Prop) : callG Try.prog EDo 100 15 [insV 24 d n m a c im, .raw (.int .u64 pc), regs x nf zf cf vf] [] (doK K False) =
    Br (chkV 24 d n m a c im != 0) (K (effV (bad (norm x) nf zf cf vf pc))) (K (effV ⟨upX (norm x) (w64 (pc + 4)), nf, zf, cf, vf, w64 (pc + w64 im), 0, 0, false⟩)) := by kernel_rfl
set_option maxRecDepth 100000 in
theorem do_24 (d n m a c im pc : Int) (x : Nat → Int) (nf zf cf vf : Bool) : CallOk Try.prog 15 [insV 24 d n m a c im, .raw (.int .u64 pc), regs x nf zf cf vf] [] fun r _ => r = .ret (effV (doV 24 d n m a c im pc x nf zf cf vf)) := by
  refine (callG_ok EDo_ok names mixed (n := 100) (K := doK (fun v => Res.ret v = .ret (effV (doV 24 d n m a c im pc x nf zf cf vf))) False) ?_).mono doK_ok
  have hp := do_eq_24 d n m a c im pc x nf zf cf vf fun v => Res.ret v = .ret (effV (doV 24 d n m a c im pc x nf zf cf vf))
  refine hp.mpr ?_
  unfold doV
  cases h : (chkV 24 d n m a c im != 0)
  · rw [if_pos (chk_ya h)]
    try simp only [stkM_eq, subM_eq, divM_eq, norm_get]
    exact effK (eff_up ..)
  · rw [chk_no h]
    exact effK (eff_norm ..)
set_option maxRecDepth 1000000 in
theorem do_eq_25 (d n m a c im pc : Int) (x : Nat → Int) (nf zf cf vf : Bool) (K : V → Prop) : callG Try.prog EDo 100 15 [insV 25 d n m a c im, .raw (.int .u64 pc), regs x nf zf cf vf] [] (doK K False) =
    Br (chkV 25 d n m a c im != 0) (K (effV (bad (norm x) nf zf cf vf pc))) (K (effV ⟨(norm x), nf, zf, cf, vf, getX (norm x) (n), 0, 0, false⟩)) := by kernel_rfl
set_option maxRecDepth 100000 in
theorem do_25 (d n m a c im pc : Int) (x : Nat → Int) (nf zf cf vf : Bool) : CallOk Try.prog 15 [insV 25 d n m a c im, .raw (.int .u64 pc), regs x nf zf cf vf] [] fun r _ => r = .ret (effV (doV 25 d n m a c im pc x nf zf cf vf)) := by
  refine (callG_ok EDo_ok names mixed (n := 100) (K := doK (fun v => Res.ret v = .ret (effV (doV 25 d n m a c im pc x nf zf cf vf))) False) ?_).mono doK_ok
  have hp := do_eq_25 d n m a c im pc x nf zf cf vf fun v => Res.ret v = .ret (effV (doV 25 d n m a c im pc x nf zf cf vf))
  refine hp.mpr ?_
  unfold doV
  cases h : (chkV 25 d n m a c im != 0)
  · rw [if_pos (chk_ya h)]
    try simp only [stkM_eq, subM_eq, divM_eq, norm_get]
    exact effK (eff_norm ..)
  · rw [chk_no h]
    exact effK (eff_norm ..)
set_option maxRecDepth 1000000 in
theorem do_eq_26 (d n m a c im pc : Int) (x : Nat → Int) (nf zf cf vf : Bool) (K : V → Prop) : callG Try.prog EDo 100 15 [insV 26 d n m a c im, .raw (.int .u64 pc), regs x nf zf cf vf] [] (doK K False) =
    Br (chkV 26 d n m a c im != 0) (K (effV (bad (norm x) nf zf cf vf pc))) (K (effV ⟨upX (norm x) (w64 (pc + 4)), nf, zf, cf, vf, getX (norm x) (n), 0, 0, false⟩)) := by kernel_rfl
set_option maxRecDepth 100000 in
theorem do_26 (d n m a c im pc : Int) (x : Nat → Int) (nf zf cf vf : Bool) : CallOk Try.prog 15 [insV 26 d n m a c im, .raw (.int .u64 pc), regs x nf zf cf vf] [] fun r _ => r = .ret (effV (doV 26 d n m a c im pc x nf zf cf vf)) := by
  refine (callG_ok EDo_ok names mixed (n := 100) (K := doK (fun v => Res.ret v = .ret (effV (doV 26 d n m a c im pc x nf zf cf vf))) False) ?_).mono doK_ok
  have hp := do_eq_26 d n m a c im pc x nf zf cf vf fun v => Res.ret v = .ret (effV (doV 26 d n m a c im pc x nf zf cf vf))
  refine hp.mpr ?_
  unfold doV
  cases h : (chkV 26 d n m a c im != 0)
  · rw [if_pos (chk_ya h)]
    try simp only [stkM_eq, subM_eq, divM_eq, norm_get]
    exact effK (eff_up ..)
  · rw [chk_no h]
    exact effK (eff_norm ..)
set_option maxRecDepth 1000000 in
theorem do_eq_27 (d n m a c im pc : Int) (x : Nat → Int) (nf zf cf vf : Bool) (K : V → Prop) : callG Try.prog EDo 100 15 [insV 27 d n m a c im, .raw (.int .u64 pc), regs x nf zf cf vf] [] (doK K False) =
    Br (chkV 27 d n m a c im != 0) (K (effV (bad (norm x) nf zf cf vf pc))) (K (effV ⟨(norm x), nf, zf, cf, vf, getX (norm x) (n), 0, 0, false⟩)) := by kernel_rfl
set_option maxRecDepth 100000 in
theorem do_27 (d n m a c im pc : Int) (x : Nat → Int) (nf zf cf vf : Bool) : CallOk Try.prog 15 [insV 27 d n m a c im, .raw (.int .u64 pc), regs x nf zf cf vf] [] fun r _ => r = .ret (effV (doV 27 d n m a c im pc x nf zf cf vf)) := by
  refine (callG_ok EDo_ok names mixed (n := 100) (K := doK (fun v => Res.ret v = .ret (effV (doV 27 d n m a c im pc x nf zf cf vf))) False) ?_).mono doK_ok
  have hp := do_eq_27 d n m a c im pc x nf zf cf vf fun v => Res.ret v = .ret (effV (doV 27 d n m a c im pc x nf zf cf vf))
  refine hp.mpr ?_
  unfold doV
  cases h : (chkV 27 d n m a c im != 0)
  · rw [if_pos (chk_ya h)]
    try simp only [stkM_eq, subM_eq, divM_eq, norm_get]
    exact effK (eff_norm ..)
  · rw [chk_no h]
    exact effK (eff_norm ..)
set_option maxRecDepth 1000000 in
theorem do_eq_28 (d n m a c im pc : Int) (x : Nat → Int) (nf zf cf vf : Bool) (K : V → Prop) : callG Try.prog EDo 100 15 [insV 28 d n m a c im, .raw (.int .u64 pc), regs x nf zf cf vf] [] (doK K False) =
    Br (chkV 28 d n m a c im != 0) (K (effV (bad (norm x) nf zf cf vf pc))) (stkM n fun n' => K (effV ⟨(norm x), nf, zf, cf, vf, w64 (pc + 4), w64 (getX (norm x) (n') + w64 im), 0, true⟩)) := by kernel_rfl
set_option maxRecDepth 100000 in
theorem do_28 (d n m a c im pc : Int) (x : Nat → Int) (nf zf cf vf : Bool) : CallOk Try.prog 15 [insV 28 d n m a c im, .raw (.int .u64 pc), regs x nf zf cf vf] [] fun r _ => r = .ret (effV (doV 28 d n m a c im pc x nf zf cf vf)) := by
  refine (callG_ok EDo_ok names mixed (n := 100) (K := doK (fun v => Res.ret v = .ret (effV (doV 28 d n m a c im pc x nf zf cf vf))) False) ?_).mono doK_ok
  have hp := do_eq_28 d n m a c im pc x nf zf cf vf fun v => Res.ret v = .ret (effV (doV 28 d n m a c im pc x nf zf cf vf))
  refine hp.mpr ?_
  unfold doV
  cases h : (chkV 28 d n m a c im != 0)
  · rw [if_pos (chk_ya h)]
    try simp only [stkM_eq, subM_eq, divM_eq, norm_get]
    exact effK (eff_norm ..)
  · rw [chk_no h]
    exact effK (eff_norm ..)
set_option maxRecDepth 1000000 in
theorem do_eq_29 (d n m a c im pc : Int) (x : Nat → Int) (nf zf cf vf : Bool) (K : V → Prop) : callG Try.prog EDo 100 15 [insV 29 d n m a c im, .raw (.int .u64 pc), regs x nf zf cf vf] [] (doK K False) =
    Br (chkV 29 d n m a c im != 0) (K (effV (bad (norm x) nf zf cf vf pc))) (stkM n fun n' => K (effV ⟨(norm x), nf, zf, cf, vf, w64 (pc + 4), w64 (getX (norm x) (n') + w64 im), getX (norm x) (d), true⟩)) := by kernel_rfl
set_option maxRecDepth 100000 in
theorem do_29 (d n m a c im pc : Int) (x : Nat → Int) (nf zf cf vf : Bool) : CallOk Try.prog 15 [insV 29 d n m a c im, .raw (.int .u64 pc), regs x nf zf cf vf] [] fun r _ => r = .ret (effV (doV 29 d n m a c im pc x nf zf cf vf)) := by
  refine (callG_ok EDo_ok names mixed (n := 100) (K := doK (fun v => Res.ret v = .ret (effV (doV 29 d n m a c im pc x nf zf cf vf))) False) ?_).mono doK_ok
  have hp := do_eq_29 d n m a c im pc x nf zf cf vf fun v => Res.ret v = .ret (effV (doV 29 d n m a c im pc x nf zf cf vf))
  refine hp.mpr ?_
  unfold doV
  cases h : (chkV 29 d n m a c im != 0)
  · rw [if_pos (chk_ya h)]
    try simp only [stkM_eq, subM_eq, divM_eq, norm_get]
    exact effK (eff_norm ..)
  · rw [chk_no h]
    exact effK (eff_norm ..)
set_option maxRecDepth 1000000 in
theorem do_eq_30 (d n m a c im pc : Int) (x : Nat → Int) (nf zf cf vf : Bool) (K : V → Prop) : callG Try.prog EDo 100 15 [insV 30 d n m a c im, .raw (.int .u64 pc), regs x nf zf cf vf] [] (doK K False) =
    Br (chkV 30 d n m a c im != 0) (K (effV (bad (norm x) nf zf cf vf pc))) (stkM n fun n' => K (effV ⟨(norm x), nf, zf, cf, vf, w64 (pc + 4), w64 (getX (norm x) (n') + w64 im), 0, true⟩)) := by kernel_rfl
set_option maxRecDepth 100000 in
theorem do_30 (d n m a c im pc : Int) (x : Nat → Int) (nf zf cf vf : Bool) : CallOk Try.prog 15 [insV 30 d n m a c im, .raw (.int .u64 pc), regs x nf zf cf vf] [] fun r _ => r = .ret (effV (doV 30 d n m a c im pc x nf zf cf vf)) := by
  refine (callG_ok EDo_ok names mixed (n := 100) (K := doK (fun v => Res.ret v = .ret (effV (doV 30 d n m a c im pc x nf zf cf vf))) False) ?_).mono doK_ok
  have hp := do_eq_30 d n m a c im pc x nf zf cf vf fun v => Res.ret v = .ret (effV (doV 30 d n m a c im pc x nf zf cf vf))
  refine hp.mpr ?_
  unfold doV
  cases h : (chkV 30 d n m a c im != 0)
  · rw [if_pos (chk_ya h)]
    try simp only [stkM_eq, subM_eq, divM_eq, norm_get]
    exact effK (eff_norm ..)
  · rw [chk_no h]
    exact effK (eff_norm ..)
set_option maxRecDepth 1000000 in
theorem do_eq_31 (d n m a c im pc : Int) (x : Nat → Int) (nf zf cf vf : Bool) (K : V → Prop) : callG Try.prog EDo 100 15 [insV 31 d n m a c im, .raw (.int .u64 pc), regs x nf zf cf vf] [] (doK K False) =
    Br (chkV 31 d n m a c im != 0) (K (effV (bad (norm x) nf zf cf vf pc))) (stkM n fun n' => K (effV ⟨(norm x), nf, zf, cf, vf, w64 (pc + 4), w64 (getX (norm x) (n') + w64 (8 * getX (norm x) (m))), 0, true⟩)) := by kernel_rfl
set_option maxRecDepth 100000 in
theorem do_31 (d n m a c im pc : Int) (x : Nat → Int) (nf zf cf vf : Bool) : CallOk Try.prog 15 [insV 31 d n m a c im, .raw (.int .u64 pc), regs x nf zf cf vf] [] fun r _ => r = .ret (effV (doV 31 d n m a c im pc x nf zf cf vf)) := by
  refine (callG_ok EDo_ok names mixed (n := 100) (K := doK (fun v => Res.ret v = .ret (effV (doV 31 d n m a c im pc x nf zf cf vf))) False) ?_).mono doK_ok
  have hp := do_eq_31 d n m a c im pc x nf zf cf vf fun v => Res.ret v = .ret (effV (doV 31 d n m a c im pc x nf zf cf vf))
  refine hp.mpr ?_
  unfold doV
  cases h : (chkV 31 d n m a c im != 0)
  · rw [if_pos (chk_ya h)]
    try simp only [stkM_eq, subM_eq, divM_eq, norm_get]
    exact effK (eff_norm ..)
  · rw [chk_no h]
    exact effK (eff_norm ..)
set_option maxRecDepth 1000000 in
theorem do_eq_32 (d n m a c im pc : Int) (x : Nat → Int) (nf zf cf vf : Bool) (K : V → Prop) : callG Try.prog EDo 100 15 [insV 32 d n m a c im, .raw (.int .u64 pc), regs x nf zf cf vf] [] (doK K False) =
    Br (chkV 32 d n m a c im != 0) (K (effV (bad (norm x) nf zf cf vf pc))) (stkM n fun n' => K (effV ⟨(norm x), nf, zf, cf, vf, w64 (pc + 4), w64 (getX (norm x) (n') + w64 (8 * getX (norm x) (m))), getX (norm x) (d), true⟩)) := by kernel_rfl
set_option maxRecDepth 100000 in
theorem do_32 (d n m a c im pc : Int) (x : Nat → Int) (nf zf cf vf : Bool) : CallOk Try.prog 15 [insV 32 d n m a c im, .raw (.int .u64 pc), regs x nf zf cf vf] [] fun r _ => r = .ret (effV (doV 32 d n m a c im pc x nf zf cf vf)) := by
  refine (callG_ok EDo_ok names mixed (n := 100) (K := doK (fun v => Res.ret v = .ret (effV (doV 32 d n m a c im pc x nf zf cf vf))) False) ?_).mono doK_ok
  have hp := do_eq_32 d n m a c im pc x nf zf cf vf fun v => Res.ret v = .ret (effV (doV 32 d n m a c im pc x nf zf cf vf))
  refine hp.mpr ?_
  unfold doV
  cases h : (chkV 32 d n m a c im != 0)
  · rw [if_pos (chk_ya h)]
    try simp only [stkM_eq, subM_eq, divM_eq, norm_get]
    exact effK (eff_norm ..)
  · rw [chk_no h]
    exact effK (eff_norm ..)
set_option maxRecDepth 1000000 in
theorem do_eq_33 (d n m a c im pc : Int) (x : Nat → Int) (nf zf cf vf : Bool) (K : V → Prop) : callG Try.prog EDo 100 15 [insV 33 d n m a c im, .raw (.int .u64 pc), regs x nf zf cf vf] [] (doK K False) =
    Br (chkV 33 d n m a c im != 0) (K (effV (bad (norm x) nf zf cf vf pc))) (stkM n fun n' => K (effV ⟨(norm x), nf, zf, cf, vf, w64 (pc + 4), w64 (getX (norm x) (n') + w64 im), 0, true⟩)) := by kernel_rfl
set_option maxRecDepth 100000 in
theorem do_33 (d n m a c im pc : Int) (x : Nat → Int) (nf zf cf vf : Bool) : CallOk Try.prog 15 [insV 33 d n m a c im, .raw (.int .u64 pc), regs x nf zf cf vf] [] fun r _ => r = .ret (effV (doV 33 d n m a c im pc x nf zf cf vf)) := by
  refine (callG_ok EDo_ok names mixed (n := 100) (K := doK (fun v => Res.ret v = .ret (effV (doV 33 d n m a c im pc x nf zf cf vf))) False) ?_).mono doK_ok
  have hp := do_eq_33 d n m a c im pc x nf zf cf vf fun v => Res.ret v = .ret (effV (doV 33 d n m a c im pc x nf zf cf vf))
  refine hp.mpr ?_
  unfold doV
  cases h : (chkV 33 d n m a c im != 0)
  · rw [if_pos (chk_ya h)]
    try simp only [stkM_eq, subM_eq, divM_eq, norm_get]
    exact effK (eff_norm ..)
  · rw [chk_no h]
    exact effK (eff_norm ..)
set_option maxRecDepth 1000000 in
theorem do_eq_34 (d n m a c im pc : Int) (x : Nat → Int) (nf zf cf vf : Bool) (K : V → Prop) : callG Try.prog EDo 100 15 [insV 34 d n m a c im, .raw (.int .u64 pc), regs x nf zf cf vf] [] (doK K False) =
    Br (chkV 34 d n m a c im != 0) (K (effV (bad (norm x) nf zf cf vf pc))) (stkM n fun n' => K (effV ⟨(norm x), nf, zf, cf, vf, w64 (pc + 4), w64 (getX (norm x) (n') + w64 im), getX (norm x) (d), true⟩)) := by kernel_rfl
set_option maxRecDepth 100000 in
theorem do_34 (d n m a c im pc : Int) (x : Nat → Int) (nf zf cf vf : Bool) : CallOk Try.prog 15 [insV 34 d n m a c im, .raw (.int .u64 pc), regs x nf zf cf vf] [] fun r _ => r = .ret (effV (doV 34 d n m a c im pc x nf zf cf vf)) := by
  refine (callG_ok EDo_ok names mixed (n := 100) (K := doK (fun v => Res.ret v = .ret (effV (doV 34 d n m a c im pc x nf zf cf vf))) False) ?_).mono doK_ok
  have hp := do_eq_34 d n m a c im pc x nf zf cf vf fun v => Res.ret v = .ret (effV (doV 34 d n m a c im pc x nf zf cf vf))
  refine hp.mpr ?_
  unfold doV
  cases h : (chkV 34 d n m a c im != 0)
  · rw [if_pos (chk_ya h)]
    try simp only [stkM_eq, subM_eq, divM_eq, norm_get]
    exact effK (eff_norm ..)
  · rw [chk_no h]
    exact effK (eff_norm ..)
set_option maxRecDepth 1000000 in
theorem do_eq_35 (d n m a c im pc : Int) (x : Nat → Int) (nf zf cf vf : Bool) (K : V → Prop) : callG Try.prog EDo 100 15 [insV 35 d n m a c im, .raw (.int .u64 pc), regs x nf zf cf vf] [] (doK K False) =
    Br (chkV 35 d n m a c im != 0) (K (effV (bad (norm x) nf zf cf vf pc))) (stkM n fun n' => K (effV ⟨(norm x), nf, zf, cf, vf, w64 (pc + 4), w64 (getX (norm x) (n') + w64 im), 0, true⟩)) := by kernel_rfl
set_option maxRecDepth 100000 in
theorem do_35 (d n m a c im pc : Int) (x : Nat → Int) (nf zf cf vf : Bool) : CallOk Try.prog 15 [insV 35 d n m a c im, .raw (.int .u64 pc), regs x nf zf cf vf] [] fun r _ => r = .ret (effV (doV 35 d n m a c im pc x nf zf cf vf)) := by
  refine (callG_ok EDo_ok names mixed (n := 100) (K := doK (fun v => Res.ret v = .ret (effV (doV 35 d n m a c im pc x nf zf cf vf))) False) ?_).mono doK_ok
  have hp := do_eq_35 d n m a c im pc x nf zf cf vf fun v => Res.ret v = .ret (effV (doV 35 d n m a c im pc x nf zf cf vf))
  refine hp.mpr ?_
  unfold doV
  cases h : (chkV 35 d n m a c im != 0)
  · rw [if_pos (chk_ya h)]
    try simp only [stkM_eq, subM_eq, divM_eq, norm_get]
    exact effK (eff_norm ..)
  · rw [chk_no h]
    exact effK (eff_norm ..)
set_option maxRecDepth 1000000 in
theorem do_eq_36 (d n m a c im pc : Int) (x : Nat → Int) (nf zf cf vf : Bool) (K : V → Prop) : callG Try.prog EDo 100 15 [insV 36 d n m a c im, .raw (.int .u64 pc), regs x nf zf cf vf] [] (doK K False) =
    Br (chkV 36 d n m a c im != 0) (K (effV (bad (norm x) nf zf cf vf pc))) (stkM n fun n' => K (effV ⟨(norm x), nf, zf, cf, vf, w64 (pc + 4), w64 (getX (norm x) (n') + w64 im), getX (norm x) (m), true⟩)) := by kernel_rfl
set_option maxRecDepth 100000 in
theorem do_36 (d n m a c im pc : Int) (x : Nat → Int) (nf zf cf vf : Bool) : CallOk Try.prog 15 [insV 36 d n m a c im, .raw (.int .u64 pc), regs x nf zf cf vf] [] fun r _ => r = .ret (effV (doV 36 d n m a c im pc x nf zf cf vf)) := by
  refine (callG_ok EDo_ok names mixed (n := 100) (K := doK (fun v => Res.ret v = .ret (effV (doV 36 d n m a c im pc x nf zf cf vf))) False) ?_).mono doK_ok
  have hp := do_eq_36 d n m a c im pc x nf zf cf vf fun v => Res.ret v = .ret (effV (doV 36 d n m a c im pc x nf zf cf vf))
  refine hp.mpr ?_
  unfold doV
  cases h : (chkV 36 d n m a c im != 0)
  · rw [if_pos (chk_ya h)]
    try simp only [stkM_eq, subM_eq, divM_eq, norm_get]
    exact effK (eff_norm ..)
  · rw [chk_no h]
    exact effK (eff_norm ..)
set_option maxRecDepth 1000000 in
theorem do_eq_37 (d n m a c im pc : Int) (x : Nat → Int) (nf zf cf vf : Bool) (K : V → Prop) : callG Try.prog EDo 100 15 [insV 37 d n m a c im, .raw (.int .u64 pc), regs x nf zf cf vf] [] (doK K False) =
    Br (chkV 37 d n m a c im != 0) (K (effV (bad (norm x) nf zf cf vf pc))) (K (effV ⟨(norm x), nf, zf, cf, vf, w64 (pc + 4), 0, 0, false⟩)) := by kernel_rfl
set_option maxRecDepth 100000 in
theorem do_37 (d n m a c im pc : Int) (x : Nat → Int) (nf zf cf vf : Bool) : CallOk Try.prog 15 [insV 37 d n m a c im, .raw (.int .u64 pc), regs x nf zf cf vf] [] fun r _ => r = .ret (effV (doV 37 d n m a c im pc x nf zf cf vf)) := by
  refine (callG_ok EDo_ok names mixed (n := 100) (K := doK (fun v => Res.ret v = .ret (effV (doV 37 d n m a c im pc x nf zf cf vf))) False) ?_).mono doK_ok
  have hp := do_eq_37 d n m a c im pc x nf zf cf vf fun v => Res.ret v = .ret (effV (doV 37 d n m a c im pc x nf zf cf vf))
  refine hp.mpr ?_
  unfold doV
  cases h : (chkV 37 d n m a c im != 0)
  · rw [if_pos (chk_ya h)]
    try simp only [stkM_eq, subM_eq, divM_eq, norm_get]
    exact effK (eff_norm ..)
  · rw [chk_no h]
    exact effK (eff_norm ..)
set_option maxRecDepth 1000000 in
theorem do_eq_38 (d n m a c im pc : Int) (x : Nat → Int) (nf zf cf vf : Bool) (K : V → Prop) : callG Try.prog EDo 100 15 [insV 38 d n m a c im, .raw (.int .u64 pc), regs x nf zf cf vf] [] (doK K False) =
    Br (chkV 38 d n m a c im != 0) (K (effV (bad (norm x) nf zf cf vf pc))) (K (effV ⟨(norm x), nf, zf, cf, vf, w64 (pc + 4), 0, 0, false⟩)) := by kernel_rfl
set_option maxRecDepth 100000 in
theorem do_38 (d n m a c im pc : Int) (x : Nat → Int) (nf zf cf vf : Bool) : CallOk Try.prog 15 [insV 38 d n m a c im, .raw (.int .u64 pc), regs x nf zf cf vf] [] fun r _ => r = .ret (effV (doV 38 d n m a c im pc x nf zf cf vf)) := by
  refine (callG_ok EDo_ok names mixed (n := 100) (K := doK (fun v => Res.ret v = .ret (effV (doV 38 d n m a c im pc x nf zf cf vf))) False) ?_).mono doK_ok
  have hp := do_eq_38 d n m a c im pc x nf zf cf vf fun v => Res.ret v = .ret (effV (doV 38 d n m a c im pc x nf zf cf vf))
  refine hp.mpr ?_
  unfold doV
  cases h : (chkV 38 d n m a c im != 0)
  · rw [if_pos (chk_ya h)]
    try simp only [stkM_eq, subM_eq, divM_eq, norm_get]
    exact effK (eff_norm ..)
  · rw [chk_no h]
    exact effK (eff_norm ..)
set_option maxRecDepth 1000000 in
theorem do_eq_39 (d n m a c im pc : Int) (x : Nat → Int) (nf zf cf vf : Bool) (K : V → Prop) : callG Try.prog EDo 100 15 [insV 39 d n m a c im, .raw (.int .u64 pc), regs x nf zf cf vf] [] (doK K False) =
    Br (chkV 39 d n m a c im != 0) (K (effV (bad (norm x) nf zf cf vf pc))) (K (effV ⟨(norm x), nf, zf, cf, vf, w64 (pc + 4), 0, 0, false⟩)) := by kernel_rfl
set_option maxRecDepth 100000 in
theorem do_39 (d n m a c im pc : Int) (x : Nat → Int) (nf zf cf vf : Bool) : CallOk Try.prog 15 [insV 39 d n m a c im, .raw (.int .u64 pc), regs x nf zf cf vf] [] fun r _ => r = .ret (effV (doV 39 d n m a c im pc x nf zf cf vf)) := by
  refine (callG_ok EDo_ok names mixed (n := 100) (K := doK (fun v => Res.ret v = .ret (effV (doV 39 d n m a c im pc x nf zf cf vf))) False) ?_).mono doK_ok
  have hp := do_eq_39 d n m a c im pc x nf zf cf vf fun v => Res.ret v = .ret (effV (doV 39 d n m a c im pc x nf zf cf vf))
  refine hp.mpr ?_
  unfold doV
  cases h : (chkV 39 d n m a c im != 0)
  · rw [if_pos (chk_ya h)]
    try simp only [stkM_eq, subM_eq, divM_eq, norm_get]
    exact effK (eff_norm ..)
  · rw [chk_no h]
    exact effK (eff_norm ..)
set_option maxRecDepth 1000000 in
theorem do_eq_40 (d n m a c im pc : Int) (x : Nat → Int) (nf zf cf vf : Bool) (K : V → Prop) : callG Try.prog EDo 100 15 [insV 40 d n m a c im, .raw (.int .u64 pc), regs x nf zf cf vf] [] (doK K False) =
    Br (chkV 40 d n m a c im != 0) (K (effV (bad (norm x) nf zf cf vf pc))) (K (effV ⟨(norm x), nf, zf, cf, vf, w64 (pc + 4), w64 (getX (norm x) (n) + w64 im), 0, true⟩)) := by kernel_rfl
set_option maxRecDepth 100000 in
theorem do_40 (d n m a c im pc : Int) (x : Nat → Int) (nf zf cf vf : Bool) : CallOk Try.prog 15 [insV 40 d n m a c im, .raw (.int .u64 pc), regs x nf zf cf vf] [] fun r _ => r = .ret (effV (doV 40 d n m a c im pc x nf zf cf vf)) := by
  refine (callG_ok EDo_ok names mixed (n := 100) (K := doK (fun v => Res.ret v = .ret (effV (doV 40 d n m a c im pc x nf zf cf vf))) False) ?_).mono doK_ok
  have hp := do_eq_40 d n m a c im pc x nf zf cf vf fun v => Res.ret v = .ret (effV (doV 40 d n m a c im pc x nf zf cf vf))
  refine hp.mpr ?_
  unfold doV
  cases h : (chkV 40 d n m a c im != 0)
  · rw [if_pos (chk_ya h)]
    try simp only [stkM_eq, subM_eq, divM_eq, norm_get]
    exact effK (eff_norm ..)
  · rw [chk_no h]
    exact effK (eff_norm ..)
set_option maxRecDepth 1000000 in
theorem do_eq_41 (d n m a c im pc : Int) (x : Nat → Int) (nf zf cf vf : Bool) (K : V → Prop) : callG Try.prog EDo 100 15 [insV 41 d n m a c im, .raw (.int .u64 pc), regs x nf zf cf vf] [] (doK K False) =
    Br (chkV 41 d n m a c im != 0) (K (effV (bad (norm x) nf zf cf vf pc))) (K (effV ⟨(norm x), nf, zf, cf, vf, w64 (pc + 4), w64 (getX (norm x) (n) + w64 im), 0, true⟩)) := by kernel_rfl
set_option maxRecDepth 100000 in
theorem do_41 (d n m a c im pc : Int) (x : Nat → Int) (nf zf cf vf : Bool) : CallOk Try.prog 15 [insV 41 d n m a c im, .raw (.int .u64 pc), regs x nf zf cf vf] [] fun r _ => r = .ret (effV (doV 41 d n m a c im pc x nf zf cf vf)) := by
  refine (callG_ok EDo_ok names mixed (n := 100) (K := doK (fun v => Res.ret v = .ret (effV (doV 41 d n m a c im pc x nf zf cf vf))) False) ?_).mono doK_ok
  have hp := do_eq_41 d n m a c im pc x nf zf cf vf fun v => Res.ret v = .ret (effV (doV 41 d n m a c im pc x nf zf cf vf))
  refine hp.mpr ?_
  unfold doV
  cases h : (chkV 41 d n m a c im != 0)
  · rw [if_pos (chk_ya h)]
    try simp only [stkM_eq, subM_eq, divM_eq, norm_get]
    exact effK (eff_norm ..)
  · rw [chk_no h]
    exact effK (eff_norm ..)
set_option maxRecDepth 1000000 in
theorem do_eq_42 (d n m a c im pc : Int) (x : Nat → Int) (nf zf cf vf : Bool) (K : V → Prop) : callG Try.prog EDo 100 15 [insV 42 d n m a c im, .raw (.int .u64 pc), regs x nf zf cf vf] [] (doK K False) =
    Br (chkV 42 d n m a c im != 0) (K (effV (bad (norm x) nf zf cf vf pc))) (K (effV ⟨(norm x), nf, zf, cf, vf, w64 (pc + 4), 0, 0, false⟩)) := by kernel_rfl
set_option maxRecDepth 100000 in
theorem do_42 (d n m a c im pc : Int) (x : Nat → Int) (nf zf cf vf : Bool) : CallOk Try.prog 15 [insV 42 d n m a c im, .raw (.int .u64 pc), regs x nf zf cf vf] [] fun r _ => r = .ret (effV (doV 42 d n m a c im pc x nf zf cf vf)) := by
  refine (callG_ok EDo_ok names mixed (n := 100) (K := doK (fun v => Res.ret v = .ret (effV (doV 42 d n m a c im pc x nf zf cf vf))) False) ?_).mono doK_ok
  have hp := do_eq_42 d n m a c im pc x nf zf cf vf fun v => Res.ret v = .ret (effV (doV 42 d n m a c im pc x nf zf cf vf))
  refine hp.mpr ?_
  unfold doV
  cases h : (chkV 42 d n m a c im != 0)
  · rw [if_pos (chk_ya h)]
    try simp only [stkM_eq, subM_eq, divM_eq, norm_get]
    exact effK (eff_norm ..)
  · rw [chk_no h]
    exact effK (eff_norm ..)
end Go.Proofs.Ytolohpkjpgbahaa.isa
end
section
/- sem.Do: for any op; a table's line. Printed (the rows of ops). -/
set_option linter.unusedVariables false
set_option linter.unusedSimpArgs false
namespace Go.Proofs.Ytolohpkjpgbahaa.isa
open Go Go.Proofs Go.Proofs.YtolohpkjpgbahaaRL
theorem do_lit (d n m a c im pc : Int) (x : Nat → Int) (nf zf cf vf : Bool) : ∀ k : Nat, k < 43 → CallOk Try.prog 15 [insV k d n m a c im, .raw (.int .u64 pc), regs x nf zf cf vf] [] fun r _ => r = .ret (effV (doV k d n m a c im pc x nf zf cf vf))
  | 0, _ => do_0 ..
  | 1, _ => do_1 ..
  | 2, _ => do_2 ..
  | 3, _ => do_3 ..
  | 4, _ => do_4 ..
  | 5, _ => do_5 ..
  | 6, _ => do_6 ..
  | 7, _ => do_7 ..
  | 8, _ => do_8 ..
  | 9, _ => do_9 ..
  | 10, _ => do_10 ..
  | 11, _ => do_11 ..
  | 12, _ => do_12 ..
  | 13, _ => do_13 ..
  | 14, _ => do_14 ..
  | 15, _ => do_15 ..
  | 16, _ => do_16 ..
  | 17, _ => do_17 ..
  | 18, _ => do_18 ..
  | 19, _ => do_19 ..
  | 20, _ => do_20 ..
  | 21, _ => do_21 ..
  | 22, _ => do_22 ..
  | 23, _ => do_23 ..
  | 24, _ => do_24 ..
  | 25, _ => do_25 ..
  | 26, _ => do_26 ..
  | 27, _ => do_27 ..
  | 28, _ => do_28 ..
  | 29, _ => do_29 ..
  | 30, _ => do_30 ..
  | 31, _ => do_31 ..
  | 32, _ => do_32 ..
  | 33, _ => do_33 ..
  | 34, _ => do_34 ..
  | 35, _ => do_35 ..
  | 36, _ => do_36 ..
  | 37, _ => do_37 ..
  | 38, _ => do_38 ..
  | 39, _ => do_39 ..
  | 40, _ => do_40 ..
  | 41, _ => do_41 ..
  | 42, _ => do_42 ..
  | k + 43, h => absurd h (by omega)
set_option maxRecDepth 1000000 in
theorem do_out (op d n m a c im pc : Int) (x : Nat → Int) (nf zf cf vf : Bool) (K : V → Prop) : evTo Try.prog EDo 40 0 (fun _ => False) [0, 0] (codeOf Try.prog 15) ⟨(funcOf Try.prog 15).ntmps, zipArgs 0 [insV op d n m a c im, .raw (.int .u64 pc), regs x nf zf cf vf], []⟩ (bodyK False Try.prog (funcOf Try.prog 15) (doK K False)) = (match chkV op d n m a c im != 0 with | true => K (effV (bad (norm x) nf zf cf vf pc)) | false => False) := by kernel_rfl
set_option maxRecDepth 100000 in
theorem do_ok (op d n m a c im pc : Int) (x : Nat → Int) (nf zf cf vf : Bool) : CallOk Try.prog 15 [insV op d n m a c im, .raw (.int .u64 pc), regs x nf zf cf vf] [] fun r _ => r = .ret (effV (doV op d n m a c im pc x nf zf cf vf)) := by
  by_cases h0 : 0 ≤ op ∧ op ≤ 42
  · obtain ⟨k, rfl⟩ := Int.eq_ofNat_of_zero_le h0.1
    exact do_lit d n m a c im pc x nf zf cf vf k (by omega)
  · have h1 : (chkV op d n m a c im != 0) = true := by
      rw [show chkV op d n m a c im = 1 from if_neg fun hh => h0 hh.1]; rfl
    refine CallOk.mono (K := doK (fun v => Res.ret v = .ret (effV (doV op d n m a c im pc x nf zf cf vf))) False) (CallOk.fnB names (by kernel_rfl) ?_) doK_ok
    refine CodeB.mono (K := bodyK False Try.prog (funcOf Try.prog 15) (doK (fun v => Res.ret v = .ret (effV (doV op d n m a c im pc x nf zf cf vf))) False)) ?_ fun _ _ h => h
    refine evTo_ok EDo_ok names mixed (n := 40) (b := 0) (Z := fun _ => False) [0, 0] _ _ _ (fun st hz => hz.elim) ?_
    have hq := do_out op d n m a c im pc x nf zf cf vf fun v => Res.ret v = .ret (effV (doV op d n m a c im pc x nf zf cf vf))
    refine hq.mpr ?_
    rw [h1]
    unfold doV
    show Res.ret _ = Res.ret _
    rw [chk_no h1]
    exact effK (eff_norm ..)
def doG : List V → Option V
  | [u, .raw (.int .u64 pc), r] => match readIns u, readRegs r with
    | some (op, d, n, m, a, c, im), some (x, nf, zf, cf, vf) => some (effV (doV op d n m a c im pc x nf zf cf vf))
    | _, _ => none
  | _ => none
theorem effV_bd (e : Eff) : (effV e).bd 0 := by
  unfold effV
  show bdL 0 _
  rw [bdL_iff]; intro v hv
  rcases List.mem_append.1 hv with h | h
  · exact bdL_iff.1 (bd_nums _ _ _ _) v h
  · simp at h; rcases h with rfl | rfl | rfl | rfl | rfl | rfl | rfl | rfl <;> trivial
theorem doG_ok {E : Eh} (hE : EOk Try.prog E) : EOk Try.prog (specE 15 doG E) := by
  refine specE_ok hE fun args v h => ?_
  unfold doG at h
  split at h
  · split at h
    · rename_i op d n m a c im x nf zf cf vf hr hq
      cases h
      rw [readIns_eq hr, readRegs_eq hq]
      exact ⟨⟨insV_bd .., trivial, bd_regs .., trivial⟩, effV_bd _, do_ok ..⟩
    · cases h
  · cases h
end Go.Proofs.Ytolohpkjpgbahaa.isa
end
