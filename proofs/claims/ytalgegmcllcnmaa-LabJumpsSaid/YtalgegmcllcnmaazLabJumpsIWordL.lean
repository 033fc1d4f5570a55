/- Parts of the proof, one behind the other. -/
import Derived.Test.YtalgegmcllcnmaazLabJumpsRLRow2
import Derived.Test.YtalgegmcllcnmaazLabJumpsRLX
import Derived.Test.YtalgegmcllcnmaazLabJumpsIIns
import Derived.Test.YtalgegmcllcnmaazLabJumpsIRefC
import Derived.Test.YtalgegmcllcnmaazLabJumpsINum
import Derived.Laws.BitsAllLaws
section
/- Registers as functions; reads, writes, conditions. Printed by genreg.py. -/
namespace Go.Proofs.Ytalgegmcllcnmaa.isa
open Go Go.Proofs Go.Proofs.YtalgegmcllcnmaaRL
set_option linter.unusedVariables false
set_option linter.unusedSimpArgs false
def regs (x : Nat → Int) (nf zf cf vf : Bool) : V := .agg (numsV .u64 x 32 ++ [.raw (.bool nf), .raw (.bool zf), .raw (.bool cf), .raw (.bool vf)])
def readRegs : V → Option ((Nat → Int) × Bool × Bool × Bool × Bool)
  | .agg cs => match readNums .u64 32 cs with
    | some (xs, [.raw (.bool nf), .raw (.bool zf), .raw (.bool cf), .raw (.bool vf)]) => some (fun i => xs.getD i 0, nf, zf, cf, vf)
    | _ => none
  | _ => none
def getX (x : Nat → Int) (n : Int) : Int := match decide (0 ≤ n ∧ n < 31) with
  | true => x n.toNat
  | false => match n == 32 with
    | true => x 31
    | false => 0
def setX (x : Nat → Int) (n v : Int) (i : Nat) : Int := match decide (0 ≤ n ∧ n < 31) with
  | true => (match decide ((i : Int) = n) with | true => v | false => x i)
  | false => match n == 32 with
    | true => (match Nat.beq i 31 with | true => v | false => x i)
    | false => x i
def norm (x : Nat → Int) : Nat → Int := fun i => ((List.range 32).map x).getD i 0
end Go.Proofs.Ytalgegmcllcnmaa.isa
end
section
/- Reads and writes of registers, conditions (brazier/brazierref6) as tables' lines. Printed by genreg.py. -/
namespace Go.Proofs.Ytalgegmcllcnmaa.isa
open Go Go.Proofs Go.Proofs.YtalgegmcllcnmaaRL
set_option linter.unusedVariables false
end Go.Proofs.Ytalgegmcllcnmaa.isa
end
section
/- LabConsts: brazierref6.Do of MOVZ and MOVK, as a table's line. -/
set_option linter.unusedVariables false
set_option linter.unusedSimpArgs false
set_option maxRecDepth 1000000
namespace Go.Proofs.Ytalgegmcllcnmaa.labConsts
open Go Go.Proofs Go.Proofs.YtalgegmcllcnmaaRL Go.Proofs.Ytalgegmcllcnmaa.isa
abbrev bV (b : Bool) : V := .raw (.bool b)
abbrev rK (K : V → Prop) : Res → Sto → Prop := fun r _ => match r with | .ret v => K v | .pan _ => False
theorem rK_ok {u : V} : ∀ (r : Res) (s : Sto), rK (fun v => v = u) r s → r = .ret u
  | .ret v, s, h => congrArg Res.ret h
  | .pan v, s, h => h.elim
def w64 (v : Int) : Int := IntKind.u64.wrap v
def sh6 (m : Int) : Int := 2 ^ min (w64 (IntKind.i64.wrap (16 * m))).toNat 64
def v2 (m im : Int) : Int := w64 (w64 im * sh6 m)
def v3 (d m im : Int) : Int := Go.bits .or .u64 (Go.bits .andNot .u64 d (w64 (65535 * sh6 m))) (w64 (w64 im * sh6 m))
def eff6 (x : Nat → Int) (nf zf cf vf : Bool) (pc : Int) : V := .agg (numsV .u64 x 32 ++ [.raw (.bool nf), .raw (.bool zf), .raw (.bool cf), .raw (.bool vf), .raw (.int .u64 (w64 (pc + 4))), .raw (.int .u64 0), .raw (.int .u64 0), .raw (.bool false)])
section
variable (d n m a c im pc : Int) (x : Nat → Int) (nf zf cf vf : Bool) (K : V → Prop)
end
/-- What MOVZ (2) or MOVK (3) makes of the registers. -/
def x6 (op d m im : Int) (x : Nat → Int) : Nat → Int := setX x d (match op == 2 with | true => v2 m im | false => v3 (getX x d) m im)
abbrev is6 (op d n m a c im : Int) : Prop := (op = 2 ∨ op = 3) ∧ chkV op d n m a c im = 0
def do6A : List V → Sto → Option Ans := fun args s => match args with
  | [u, .raw (.int .u64 pc), r] => match readIns u, readRegs r with
    | some (op, d, n, m, a, c, im), some (x, nf, zf, cf, vf) => some (.br (decide (is6 op d n m a c im)) (.one (.ret (eff6 (x6 op d m im (norm x)) nf zf cf vf pc)) s) .no)
    | _, _ => none
  | _ => none
end Go.Proofs.Ytalgegmcllcnmaa.labConsts
end
section
/- LabConsts: the numbers: parts laid one by one. -/
set_option linter.unusedVariables false
set_option linter.unusedSimpArgs false
namespace Go.Proofs.Ytalgegmcllcnmaa.labConsts
open Go Go.Proofs Go.Proofs.YtalgegmcllcnmaaRL Go.Proofs.Ytalgegmcllcnmaa.isa
def part (v : Int) (p : Nat) : Int := IntKind.i64.wrap (Go.bits .and .u64 (v.fdiv (2 ^ (16 * p))) 65535)
end Go.Proofs.Ytalgegmcllcnmaa.labConsts
end
section
/- A word is one. Printed by genword.py. -/
namespace Go.Proofs.Ytalgegmcllcnmaa.isa
open Go Go.Proofs Go.Proofs.YtalgegmcllcnmaaRL
set_option linter.unusedVariables false
set_option linter.unusedSimpArgs false
theorem bar_lt (imm : Int) : 0 ≤ bar imm ∧ bar imm < 12 := by
  unfold bar
  repeat' split
  all_goals omega
theorem wordP_lt {d n m a c imm : Int} : ∀ k : Nat, k < 43 → okP k d n m a c imm → 0 ≤ wordP k d n m a c imm ∧ wordP k d n m a c imm < 4294967296
  | 0, _, h => by
    obtain ⟨hd, hn, hm, ha, hc, hz, hi⟩ : d = 0 ∧ n = 0 ∧ m = 0 ∧ a = 0 ∧ c = 0 ∧ True ∧ (0 ≤ imm ∧ imm < 65536) := h
    have hb := bar_lt imm
    show 0 ≤ 0 + imm ∧ 0 + imm < 4294967296
    omega
  | 1, _, h => by
    obtain ⟨hd, hn, hm, ha, hc, hz, hi⟩ : d = 0 ∧ n = 0 ∧ m = 0 ∧ a = 0 ∧ c = 0 ∧ imm = 0 ∧ (True) := h
    have hb := bar_lt imm
    show 0 ≤ 3573751839 ∧ 3573751839 < 4294967296
    omega
  | 2, _, h => by
    obtain ⟨hd, hn, hm, ha, hc, hz, hi⟩ : (0 ≤ d ∧ d ≤ 31) ∧ n = 0 ∧ (0 ≤ m ∧ m ≤ 31) ∧ a = 0 ∧ c = 0 ∧ True ∧ (0 ≤ imm ∧ imm < 65536 ∧ m ≤ 3) := h
    have hb := bar_lt imm
    show 0 ≤ 3531603968 + m * 2097152 + imm * 32 + d ∧ 3531603968 + m * 2097152 + imm * 32 + d < 4294967296
    omega
  | 3, _, h => by
    obtain ⟨hd, hn, hm, ha, hc, hz, hi⟩ : (0 ≤ d ∧ d ≤ 31) ∧ n = 0 ∧ (0 ≤ m ∧ m ≤ 31) ∧ a = 0 ∧ c = 0 ∧ True ∧ (0 ≤ imm ∧ imm < 65536 ∧ m ≤ 3) := h
    have hb := bar_lt imm
    show 0 ≤ 4068474880 + m * 2097152 + imm * 32 + d ∧ 4068474880 + m * 2097152 + imm * 32 + d < 4294967296
    omega
  | 4, _, h => by
    obtain ⟨hd, hn, hm, ha, hc, hz, hi⟩ : (0 ≤ d ∧ d ≤ 31) ∧ (0 ≤ n ∧ n ≤ 31) ∧ m = 0 ∧ a = 0 ∧ c = 0 ∧ True ∧ (0 ≤ imm ∧ imm < 4096) := h
    have hb := bar_lt imm
    show 0 ≤ 2432696320 + n * 32 + imm * 1024 + d ∧ 2432696320 + n * 32 + imm * 1024 + d < 4294967296
    omega
  | 5, _, h => by
    obtain ⟨hd, hn, hm, ha, hc, hz, hi⟩ : (0 ≤ d ∧ d ≤ 31) ∧ (0 ≤ n ∧ n ≤ 31) ∧ m = 0 ∧ a = 0 ∧ c = 0 ∧ True ∧ (0 ≤ imm ∧ imm < 4096) := h
    have hb := bar_lt imm
    show 0 ≤ 3506438144 + n * 32 + imm * 1024 + d ∧ 3506438144 + n * 32 + imm * 1024 + d < 4294967296
    omega
  | 6, _, h => by
    obtain ⟨hd, hn, hm, ha, hc, hz, hi⟩ : (0 ≤ d ∧ d ≤ 31) ∧ (0 ≤ n ∧ n ≤ 31) ∧ m = 0 ∧ a = 0 ∧ c = 0 ∧ True ∧ (0 ≤ imm ∧ imm < 4096) := h
    have hb := bar_lt imm
    show 0 ≤ 4043309056 + n * 32 + imm * 1024 + d ∧ 4043309056 + n * 32 + imm * 1024 + d < 4294967296
    omega
  | 7, _, h => by
    obtain ⟨hd, hn, hm, ha, hc, hz, hi⟩ : (0 ≤ d ∧ d ≤ 31) ∧ (0 ≤ n ∧ n ≤ 31) ∧ (0 ≤ m ∧ m ≤ 31) ∧ a = 0 ∧ c = 0 ∧ imm = 0 ∧ (True) := h
    have hb := bar_lt imm
    show 0 ≤ 2332033024 + n * 32 + m * 65536 + d ∧ 2332033024 + n * 32 + m * 65536 + d < 4294967296
    omega
  | 8, _, h => by
    obtain ⟨hd, hn, hm, ha, hc, hz, hi⟩ : (0 ≤ d ∧ d ≤ 31) ∧ (0 ≤ n ∧ n ≤ 31) ∧ (0 ≤ m ∧ m ≤ 31) ∧ a = 0 ∧ c = 0 ∧ imm = 0 ∧ (True) := h
    have hb := bar_lt imm
    show 0 ≤ 3405774848 + n * 32 + m * 65536 + d ∧ 3405774848 + n * 32 + m * 65536 + d < 4294967296
    omega
  | 9, _, h => by
    obtain ⟨hd, hn, hm, ha, hc, hz, hi⟩ : (0 ≤ d ∧ d ≤ 31) ∧ (0 ≤ n ∧ n ≤ 31) ∧ (0 ≤ m ∧ m ≤ 31) ∧ a = 0 ∧ c = 0 ∧ imm = 0 ∧ (True) := h
    have hb := bar_lt imm
    show 0 ≤ 3942645760 + n * 32 + m * 65536 + d ∧ 3942645760 + n * 32 + m * 65536 + d < 4294967296
    omega
  | 10, _, h => by
    obtain ⟨hd, hn, hm, ha, hc, hz, hi⟩ : (0 ≤ d ∧ d ≤ 31) ∧ (0 ≤ n ∧ n ≤ 31) ∧ (0 ≤ m ∧ m ≤ 31) ∧ a = 0 ∧ c = 0 ∧ imm = 0 ∧ (True) := h
    have hb := bar_lt imm
    show 0 ≤ 2315255808 + n * 32 + m * 65536 + d ∧ 2315255808 + n * 32 + m * 65536 + d < 4294967296
    omega
  | 11, _, h => by
    obtain ⟨hd, hn, hm, ha, hc, hz, hi⟩ : (0 ≤ d ∧ d ≤ 31) ∧ (0 ≤ n ∧ n ≤ 31) ∧ (0 ≤ m ∧ m ≤ 31) ∧ a = 0 ∧ c = 0 ∧ imm = 0 ∧ (True) := h
    have hb := bar_lt imm
    show 0 ≤ 2852126720 + n * 32 + m * 65536 + d ∧ 2852126720 + n * 32 + m * 65536 + d < 4294967296
    omega
  | 12, _, h => by
    obtain ⟨hd, hn, hm, ha, hc, hz, hi⟩ : (0 ≤ d ∧ d ≤ 31) ∧ (0 ≤ n ∧ n ≤ 31) ∧ (0 ≤ m ∧ m ≤ 31) ∧ a = 0 ∧ c = 0 ∧ imm = 0 ∧ (True) := h
    have hb := bar_lt imm
    show 0 ≤ 3388997632 + n * 32 + m * 65536 + d ∧ 3388997632 + n * 32 + m * 65536 + d < 4294967296
    omega
  | 13, _, h => by
    obtain ⟨hd, hn, hm, ha, hc, hz, hi⟩ : (0 ≤ d ∧ d ≤ 31) ∧ (0 ≤ n ∧ n ≤ 31) ∧ (0 ≤ m ∧ m ≤ 31) ∧ (0 ≤ a ∧ a ≤ 31) ∧ c = 0 ∧ imm = 0 ∧ (True) := h
    have hb := bar_lt imm
    show 0 ≤ 2600468480 + n * 32 + m * 65536 + a * 1024 + d ∧ 2600468480 + n * 32 + m * 65536 + a * 1024 + d < 4294967296
    omega
  | 14, _, h => by
    obtain ⟨hd, hn, hm, ha, hc, hz, hi⟩ : (0 ≤ d ∧ d ≤ 31) ∧ (0 ≤ n ∧ n ≤ 31) ∧ (0 ≤ m ∧ m ≤ 31) ∧ (0 ≤ a ∧ a ≤ 31) ∧ c = 0 ∧ imm = 0 ∧ (True) := h
    have hb := bar_lt imm
    show 0 ≤ 2600501248 + n * 32 + m * 65536 + a * 1024 + d ∧ 2600501248 + n * 32 + m * 65536 + a * 1024 + d < 4294967296
    omega
  | 15, _, h => by
    obtain ⟨hd, hn, hm, ha, hc, hz, hi⟩ : (0 ≤ d ∧ d ≤ 31) ∧ (0 ≤ n ∧ n ≤ 31) ∧ (0 ≤ m ∧ m ≤ 31) ∧ a = 0 ∧ c = 0 ∧ imm = 0 ∧ (True) := h
    have hb := bar_lt imm
    show 0 ≤ 2596277248 + n * 32 + m * 65536 + d ∧ 2596277248 + n * 32 + m * 65536 + d < 4294967296
    omega
  | 16, _, h => by
    obtain ⟨hd, hn, hm, ha, hc, hz, hi⟩ : (0 ≤ d ∧ d ≤ 31) ∧ (0 ≤ n ∧ n ≤ 31) ∧ (0 ≤ m ∧ m ≤ 31) ∧ a = 0 ∧ c = 0 ∧ imm = 0 ∧ (True) := h
    have hb := bar_lt imm
    show 0 ≤ 2596282368 + n * 32 + m * 65536 + d ∧ 2596282368 + n * 32 + m * 65536 + d < 4294967296
    omega
  | 17, _, h => by
    obtain ⟨hd, hn, hm, ha, hc, hz, hi⟩ : (0 ≤ d ∧ d ≤ 31) ∧ (0 ≤ n ∧ n ≤ 31) ∧ (0 ≤ m ∧ m ≤ 31) ∧ a = 0 ∧ c = 0 ∧ imm = 0 ∧ (True) := h
    have hb := bar_lt imm
    show 0 ≤ 2596283392 + n * 32 + m * 65536 + d ∧ 2596283392 + n * 32 + m * 65536 + d < 4294967296
    omega
  | 18, _, h => by
    obtain ⟨hd, hn, hm, ha, hc, hz, hi⟩ : (0 ≤ d ∧ d ≤ 31) ∧ (0 ≤ n ∧ n ≤ 31) ∧ (0 ≤ m ∧ m ≤ 31) ∧ a = 0 ∧ c = 0 ∧ imm = 0 ∧ (True) := h
    have hb := bar_lt imm
    show 0 ≤ 2596284416 + n * 32 + m * 65536 + d ∧ 2596284416 + n * 32 + m * 65536 + d < 4294967296
    omega
  | 19, _, h => by
    obtain ⟨hd, hn, hm, ha, hc, hz, hi⟩ : (0 ≤ d ∧ d ≤ 31) ∧ (0 ≤ n ∧ n ≤ 31) ∧ (0 ≤ m ∧ m ≤ 31) ∧ a = 0 ∧ (0 ≤ c ∧ c ≤ 15) ∧ imm = 0 ∧ (True) := h
    have hb := bar_lt imm
    show 0 ≤ 2592080896 + n * 32 + c * 4096 + m * 65536 + d ∧ 2592080896 + n * 32 + c * 4096 + m * 65536 + d < 4294967296
    omega
  | 20, _, h => by
    obtain ⟨hd, hn, hm, ha, hc, hz, hi⟩ : d = 0 ∧ n = 0 ∧ m = 0 ∧ a = 0 ∧ c = 0 ∧ True ∧ (imm % 4 = 0 ∧ -134217728 ≤ imm ∧ imm < 134217728) := h
    have hb := bar_lt imm
    show 0 ≤ 335544320 + ((imm / 4) % 67108864) ∧ 335544320 + ((imm / 4) % 67108864) < 4294967296
    omega
  | 21, _, h => by
    obtain ⟨hd, hn, hm, ha, hc, hz, hi⟩ : d = 0 ∧ n = 0 ∧ m = 0 ∧ a = 0 ∧ (0 ≤ c ∧ c ≤ 15) ∧ True ∧ (imm % 4 = 0 ∧ -1048576 ≤ imm ∧ imm < 1048576 ∧ c ≤ 13) := h
    have hb := bar_lt imm
    show 0 ≤ 1409286144 + ((imm / 4) % 524288) * 32 + c ∧ 1409286144 + ((imm / 4) % 524288) * 32 + c < 4294967296
    omega
  | 22, _, h => by
    obtain ⟨hd, hn, hm, ha, hc, hz, hi⟩ : (0 ≤ d ∧ d ≤ 31) ∧ n = 0 ∧ m = 0 ∧ a = 0 ∧ c = 0 ∧ True ∧ (imm % 4 = 0 ∧ -1048576 ≤ imm ∧ imm < 1048576) := h
    have hb := bar_lt imm
    show 0 ≤ 3019898880 + ((imm / 4) % 524288) * 32 + d ∧ 3019898880 + ((imm / 4) % 524288) * 32 + d < 4294967296
    omega
  | 23, _, h => by
    obtain ⟨hd, hn, hm, ha, hc, hz, hi⟩ : (0 ≤ d ∧ d ≤ 31) ∧ n = 0 ∧ m = 0 ∧ a = 0 ∧ c = 0 ∧ True ∧ (imm % 4 = 0 ∧ -1048576 ≤ imm ∧ imm < 1048576) := h
    have hb := bar_lt imm
    show 0 ≤ 3036676096 + ((imm / 4) % 524288) * 32 + d ∧ 3036676096 + ((imm / 4) % 524288) * 32 + d < 4294967296
    omega
  | 24, _, h => by
    obtain ⟨hd, hn, hm, ha, hc, hz, hi⟩ : d = 0 ∧ n = 0 ∧ m = 0 ∧ a = 0 ∧ c = 0 ∧ True ∧ (imm % 4 = 0 ∧ -134217728 ≤ imm ∧ imm < 134217728) := h
    have hb := bar_lt imm
    show 0 ≤ 2483027968 + ((imm / 4) % 67108864) ∧ 2483027968 + ((imm / 4) % 67108864) < 4294967296
    omega
  | 25, _, h => by
    obtain ⟨hd, hn, hm, ha, hc, hz, hi⟩ : d = 0 ∧ (0 ≤ n ∧ n ≤ 31) ∧ m = 0 ∧ a = 0 ∧ c = 0 ∧ imm = 0 ∧ (True) := h
    have hb := bar_lt imm
    show 0 ≤ 3592355840 + n * 32 ∧ 3592355840 + n * 32 < 4294967296
    omega
  | 26, _, h => by
    obtain ⟨hd, hn, hm, ha, hc, hz, hi⟩ : d = 0 ∧ (0 ≤ n ∧ n ≤ 31) ∧ m = 0 ∧ a = 0 ∧ c = 0 ∧ imm = 0 ∧ (True) := h
    have hb := bar_lt imm
    show 0 ≤ 3594452992 + n * 32 ∧ 3594452992 + n * 32 < 4294967296
    omega
  | 27, _, h => by
    obtain ⟨hd, hn, hm, ha, hc, hz, hi⟩ : d = 0 ∧ (0 ≤ n ∧ n ≤ 31) ∧ m = 0 ∧ a = 0 ∧ c = 0 ∧ imm = 0 ∧ (True) := h
    have hb := bar_lt imm
    show 0 ≤ 3596550144 + n * 32 ∧ 3596550144 + n * 32 < 4294967296
    omega
  | 28, _, h => by
    obtain ⟨hd, hn, hm, ha, hc, hz, hi⟩ : (0 ≤ d ∧ d ≤ 31) ∧ (0 ≤ n ∧ n ≤ 31) ∧ m = 0 ∧ a = 0 ∧ c = 0 ∧ True ∧ (0 ≤ imm ∧ imm < 32768 ∧ imm % 8 = 0) := h
    have hb := bar_lt imm
    show 0 ≤ 4181721088 + n * 32 + (imm / 8) * 1024 + d ∧ 4181721088 + n * 32 + (imm / 8) * 1024 + d < 4294967296
    omega
  | 29, _, h => by
    obtain ⟨hd, hn, hm, ha, hc, hz, hi⟩ : (0 ≤ d ∧ d ≤ 31) ∧ (0 ≤ n ∧ n ≤ 31) ∧ m = 0 ∧ a = 0 ∧ c = 0 ∧ True ∧ (0 ≤ imm ∧ imm < 32768 ∧ imm % 8 = 0) := h
    have hb := bar_lt imm
    show 0 ≤ 4177526784 + n * 32 + (imm / 8) * 1024 + d ∧ 4177526784 + n * 32 + (imm / 8) * 1024 + d < 4294967296
    omega
  | 30, _, h => by
    obtain ⟨hd, hn, hm, ha, hc, hz, hi⟩ : (0 ≤ d ∧ d ≤ 31) ∧ (0 ≤ n ∧ n ≤ 31) ∧ m = 0 ∧ a = 0 ∧ c = 0 ∧ True ∧ (0 ≤ imm ∧ imm < 4096) := h
    have hb := bar_lt imm
    show 0 ≤ 960495616 + n * 32 + imm * 1024 + d ∧ 960495616 + n * 32 + imm * 1024 + d < 4294967296
    omega
  | 31, _, h => by
    obtain ⟨hd, hn, hm, ha, hc, hz, hi⟩ : (0 ≤ d ∧ d ≤ 31) ∧ (0 ≤ n ∧ n ≤ 31) ∧ (0 ≤ m ∧ m ≤ 31) ∧ a = 0 ∧ c = 0 ∧ imm = 0 ∧ (True) := h
    have hb := bar_lt imm
    show 0 ≤ 4167071744 + n * 32 + m * 65536 + d ∧ 4167071744 + n * 32 + m * 65536 + d < 4294967296
    omega
  | 32, _, h => by
    obtain ⟨hd, hn, hm, ha, hc, hz, hi⟩ : (0 ≤ d ∧ d ≤ 31) ∧ (0 ≤ n ∧ n ≤ 31) ∧ (0 ≤ m ∧ m ≤ 31) ∧ a = 0 ∧ c = 0 ∧ imm = 0 ∧ (True) := h
    have hb := bar_lt imm
    show 0 ≤ 4162877440 + n * 32 + m * 65536 + d ∧ 4162877440 + n * 32 + m * 65536 + d < 4294967296
    omega
  | 33, _, h => by
    obtain ⟨hd, hn, hm, ha, hc, hz, hi⟩ : (0 ≤ d ∧ d ≤ 31) ∧ (0 ≤ n ∧ n ≤ 31) ∧ m = 0 ∧ a = 0 ∧ c = 0 ∧ imm = 0 ∧ (True) := h
    have hb := bar_lt imm
    show 0 ≤ 3370122240 + n * 32 + d ∧ 3370122240 + n * 32 + d < 4294967296
    omega
  | 34, _, h => by
    obtain ⟨hd, hn, hm, ha, hc, hz, hi⟩ : (0 ≤ d ∧ d ≤ 31) ∧ (0 ≤ n ∧ n ≤ 31) ∧ m = 0 ∧ a = 0 ∧ c = 0 ∧ imm = 0 ∧ (True) := h
    have hb := bar_lt imm
    show 0 ≤ 3365927936 + n * 32 + d ∧ 3365927936 + n * 32 + d < 4294967296
    omega
  | 35, _, h => by
    obtain ⟨hd, hn, hm, ha, hc, hz, hi⟩ : (0 ≤ d ∧ d ≤ 31) ∧ (0 ≤ n ∧ n ≤ 31) ∧ m = 0 ∧ a = 0 ∧ c = 0 ∧ imm = 0 ∧ (True) := h
    have hb := bar_lt imm
    show 0 ≤ 3361700864 + n * 32 + d ∧ 3361700864 + n * 32 + d < 4294967296
    omega
  | 36, _, h => by
    obtain ⟨hd, hn, hm, ha, hc, hz, hi⟩ : (0 ≤ d ∧ d ≤ 31) ∧ (0 ≤ n ∧ n ≤ 31) ∧ (0 ≤ m ∧ m ≤ 31) ∧ a = 0 ∧ c = 0 ∧ imm = 0 ∧ (True) := h
    have hb := bar_lt imm
    show 0 ≤ 3355474944 + d * 65536 + n * 32 + m ∧ 3355474944 + d * 65536 + n * 32 + m < 4294967296
    omega
  | 37, _, h => by
    obtain ⟨hd, hn, hm, ha, hc, hz, hi⟩ : d = 0 ∧ n = 0 ∧ m = 0 ∧ a = 0 ∧ c = 0 ∧ True ∧ (0 ≤ imm ∧ imm ≤ 2) := h
    have hb := bar_lt imm
    show 0 ≤ 3573756095 + (bar imm) * 256 ∧ 3573756095 + (bar imm) * 256 < 4294967296
    omega
  | 38, _, h => by
    obtain ⟨hd, hn, hm, ha, hc, hz, hi⟩ : d = 0 ∧ n = 0 ∧ m = 0 ∧ a = 0 ∧ c = 0 ∧ imm = 0 ∧ (True) := h
    have hb := bar_lt imm
    show 0 ≤ 3573758879 ∧ 3573758879 < 4294967296
    omega
  | 39, _, h => by
    obtain ⟨hd, hn, hm, ha, hc, hz, hi⟩ : d = 0 ∧ n = 0 ∧ m = 0 ∧ a = 0 ∧ c = 0 ∧ imm = 0 ∧ (True) := h
    have hb := bar_lt imm
    show 0 ≤ 3573759967 ∧ 3573759967 < 4294967296
    omega
  | 40, _, h => by
    obtain ⟨hd, hn, hm, ha, hc, hz, hi⟩ : d = 0 ∧ (0 ≤ n ∧ n ≤ 31) ∧ m = 0 ∧ a = 0 ∧ c = 0 ∧ imm = 0 ∧ (True) := h
    have hb := bar_lt imm
    show 0 ≤ 3574299424 + n ∧ 3574299424 + n < 4294967296
    omega
  | 41, _, h => by
    obtain ⟨hd, hn, hm, ha, hc, hz, hi⟩ : d = 0 ∧ (0 ≤ n ∧ n ≤ 31) ∧ m = 0 ∧ a = 0 ∧ c = 0 ∧ imm = 0 ∧ (True) := h
    have hb := bar_lt imm
    show 0 ≤ 3574297888 + n ∧ 3574297888 + n < 4294967296
    omega
  | 42, _, h => by
    obtain ⟨hd, hn, hm, ha, hc, hz, hi⟩ : d = 0 ∧ n = 0 ∧ m = 0 ∧ a = 0 ∧ c = 0 ∧ True ∧ (0 ≤ imm ∧ imm < 65536) := h
    have hb := bar_lt imm
    show 0 ≤ 3556769793 + imm * 32 ∧ 3556769793 + imm * 32 < 4294967296
    omega
  | k + 43, h, _ => absurd h (by omega)
theorem wordV_lt (op d n m a c imm : Int) : 0 ≤ wordV op d n m a c imm ∧ wordV op d n m a c imm < 4294967296 := by
  unfold wordV
  split
  · rename_i h
    exact wordP_lt op.toNat (by have := h.1; omega) h.2
  · omega
end Go.Proofs.Ytalgegmcllcnmaa.isa
end
