/- The tables of chapter 22's law: has, Which, Kind, ClassOf, Object, Address. -/
import Derived.Test.YtfammlbhfgagbaazLayoutApartPTabF
import Derived.Test.YtfammlbhfgagbaazLayoutApartRLX
namespace Go.Proofs.Ytfammlbhfgagbaa.la
open Go Go.Proofs Go.Proofs.YtfammlbhfgagbaaRL Go.Proofs.Ytfammlbhfgagbaa.tabF
set_option linter.unusedVariables false
set_option linter.unusedSimpArgs false
set_option maxRecDepth 100000
theorem neg0 : Int.negSucc 0 = -1 := rfl
theorem neg1 : Int.negSucc 1 = -2 := rfl
theorem neg2 : Int.negSucc 2 = -3 := rfl
def hasV (at_ sz addr n : Int) : Bool := decide (addr ≥ at_) && (decide (IntKind.u64.wrap (addr - at_) < sz) && decide (n ≤ IntKind.u64.wrap (sz - IntKind.u64.wrap (addr - at_))))
def inV (at_ sz addr : Int) : Bool := decide (addr ≥ at_) && decide (IntKind.u64.wrap (addr - at_) < sz)
def szS (c : Int) : Int := IntKind.u64.wrap (131072 * IntKind.u64.wrap c)
def szH (h : Int) : Int := IntKind.u64.wrap (8 * IntKind.u64.wrap (if 1 > h then 1 else h))
def szC (k : Int) : Int := if 64 > IntKind.u64.wrap (4 * IntKind.u64.wrap k) then 64 else IntKind.u64.wrap (4 * IntKind.u64.wrap k)
def whichV (c h d k q addr : Int) : Int := match decide (okC c h d k q) with
  | false => 0
  | true => match inV 65536 262144 addr with
    | true => 1
    | false => match inV 524288 262144 addr with
      | true => 2
      | false => match inV 1048576 (szS c) addr with
        | true => 3
        | false => match inV 2097152 (szH h) addr with
          | true => 4
          | false => match inV 3145728 (szC k) addr with
            | true => 5
            | false => 0
def kindV (c : Int) : Int := if 0 ≤ c ∧ c < 50 then IntKind.u64.wrap (IntKind.u64.wrap c + 1) else if c = -1 ∨ c = -2 then IntKind.u64.wrap (4294967296 + IntKind.u64.wrap (IntKind.i64.wrap (0 - c))) else 0
def classV (c : Int) : Int := if c = 4294967297 then -1 else if c = 4294967298 then -2 else if 1 ≤ c ∧ c ≤ 50 then IntKind.i64.wrap (IntKind.u64.wrap (c - 1)) else -3
def objV (c : Int) : Int := if c.tmod 8 ≠ 0 ∨ c < 2097152 ∨ c ≥ 2621440 then 0 else IntKind.i64.wrap (IntKind.i64.wrap ((IntKind.i64.wrap (IntKind.u64.wrap (c - 2097152))).tdiv 8) + 1)
def addrV (c : Int) : Int := if c < 1 ∨ c > 65536 then 0 else IntKind.u64.wrap (2097152 + IntKind.u64.wrap (8 * IntKind.u64.wrap (IntKind.i64.wrap (c - 1))))
abbrev u64 (x : Int) : V := .raw (.int .u64 x)
abbrev i64 (x : Int) : V := .raw (.int .i64 x)
def hasA : List V → Sto → Option Ans
  | [.ptr i off, .raw (.int .u64 addr), .raw (.int .u64 n)], s => match cellsAt s i off with
    | .raw (.int .u64 at_) :: .raw (.int .u64 sz) :: _ => some (.one (.ret (.raw (.bool (hasV at_ sz addr n)))) s)
    | _ => none
  | _, _ => none
theorem has_small (at_ sz addr n : Int) : CallOk Try.prog 25 [.ptr 0 0, u64 addr, u64 n] [.ro [u64 at_, u64 sz]] fun r _ => r = .ret (.raw (.bool (hasV at_ sz addr n))) := by
  refine callG_ok noE_ok names mixed (n := 100) ?_
  have hp := has_eq at_ sz addr n fun r => r = .ret (.raw (.bool (hasV at_ sz addr n)))
  refine hp.mpr ?_
  unfold has_f hasV
  cases h1 : decide (addr ≥ at_)
  · rfl
  · cases h2 : decide (IntKind.u64.wrap (addr - at_) < sz)
    · rfl
    · rfl
theorem hasA_ok {E : Eh} (hE : EOk Try.prog E) : EOk Try.prog (addE 25 hasA E) := by
  refine addE_ok hE fun args s a h _ => ?_
  unfold hasA at h
  split at h
  · split at h
    · rename_i at_ sz rest hc
      cases h
      exact CallOk.at (vs := [u64 at_, u64 sz]) trivial hc (by simp) ⟨trivial, trivial, trivial⟩ ⟨trivial, trivial, trivial⟩ (has_small ..)
    · cases h
  · cases h
theorem kind_ok (c : Int) : CallOk Try.prog 12 [i64 c] [] fun r _ => r = .ret (u64 (kindV c)) := by
  refine callG_ok noE_ok names mixed (n := 100) ?_
  generalize hw : kindV c = w
  have hp := kind_eq c fun r => r = .ret (u64 w)
  refine hp.mpr ?_
  unfold kind_f
  unfold kindV at hw
  repeat' split
  all_goals
    simp only [decide_eq_true_eq, decide_eq_false_iff_not, beq_iff_eq, beq_eq_false_iff_ne, ne_eq, neg0, neg1, neg2] at *
    rw [← hw]
    first
    | (exfalso; omega)
    | rw [if_pos (by omega)]
    | rw [if_neg (by omega), if_pos (by omega)]
    | rw [if_neg (by omega), if_neg (by omega)]
theorem class_ok (c : Int) : CallOk Try.prog 13 [u64 c] [] fun r _ => r = .ret (i64 (classV c)) := by
  refine callG_ok noE_ok names mixed (n := 100) ?_
  generalize hw : classV c = w
  have hp := classof_eq c fun r => r = .ret (i64 w)
  refine hp.mpr ?_
  unfold classof_f
  unfold classV at hw
  repeat' split
  all_goals
    simp only [decide_eq_true_eq, decide_eq_false_iff_not, beq_iff_eq, beq_eq_false_iff_ne, ne_eq, neg0, neg1, neg2] at *
    rw [← hw]
    first
    | (exfalso; omega)
    | rw [if_pos (by omega)]
    | rw [if_neg (by omega), if_pos (by omega)]
    | rw [if_neg (by omega), if_neg (by omega), if_pos (by omega)]
    | rw [if_neg (by omega), if_neg (by omega), if_neg (by omega)]
theorem obj_ok (c : Int) : CallOk Try.prog 10 [u64 c] [] fun r _ => r = .ret (i64 (objV c)) := by
  refine callG_ok noE_ok names mixed (n := 100) ?_
  generalize hw : objV c = w
  have hp := obj_eq c fun r => r = .ret (i64 w)
  refine hp.mpr ?_
  unfold obj_f
  unfold objV at hw
  repeat' split
  all_goals
    simp only [decide_eq_true_eq, decide_eq_false_iff_not, bne_iff_ne, bne_eq_false_iff_eq, ne_eq, Bool.not_eq_true, neg0, neg1, neg2] at *
    rw [← hw]
    first
    | (exfalso; omega)
    | rw [if_pos (by omega)]
    | rw [if_neg (by omega)]
theorem addr_ok (c : Int) : CallOk Try.prog 11 [i64 c] [] fun r _ => r = .ret (u64 (addrV c)) := by
  refine callG_ok noE_ok names mixed (n := 100) ?_
  generalize hw : addrV c = w
  have hp := addr_eq c fun r => r = .ret (u64 w)
  refine hp.mpr ?_
  unfold addr_f
  unfold addrV at hw
  repeat' split
  all_goals
    simp only [decide_eq_true_eq, decide_eq_false_iff_not, ne_eq, neg0, neg1, neg2] at *
    rw [← hw]
    first
    | (exfalso; omega)
    | rw [if_pos (by omega)]
    | rw [if_neg (by omega)]
end Go.Proofs.Ytfammlbhfgagbaa.la
