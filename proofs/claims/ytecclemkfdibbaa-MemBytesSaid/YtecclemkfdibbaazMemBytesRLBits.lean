/- RL: what bits of words are, as bit vectors. -/
import Derived.Test.YtecclemkfdibbaazMemBytesRL3
namespace Go.Proofs.YtecclemkfdibbaaRL
open Go
set_option linter.unusedVariables false
theorem wrap_u64 (n : Int) : IntKind.u64.wrap n = n % 18446744073709551616 := by
  unfold IntKind.wrap
  simp [IntKind.signed, IntKind.bits]
abbrev bv (n : Int) : BitVec 64 := BitVec.ofInt 64 n
theorem bv_toNat (n : Int) : ((bv n).toNat : Int) = n % 18446744073709551616 := by
  rw [BitVec.toNat_ofInt]; omega
theorem bv_wrap (x : BitVec 64) : bv (IntKind.u64.wrap (x.toNat : Int)) = x := by
  apply BitVec.eq_of_toNat_eq
  have hlt := x.isLt
  have := bv_toNat (IntKind.u64.wrap (x.toNat : Int))
  rw [wrap_u64] at this ⊢
  omega
theorem bv_or (a b : Int) : bv (Go.bits .or .u64 a b) = bv a ||| bv b := by
  unfold Go.bits; exact bv_wrap _
theorem bits_lt (o : BinOp) (a b : Int) : 0 ≤ Go.bits o .u64 a b ∧ Go.bits o .u64 a b < 18446744073709551616 := by
  unfold Go.bits
  constructor <;> (try split) <;> first | (rw [wrap_u64]; omega) | omega
theorem bits_eq {t : Int} (h0 : 0 ≤ t) (h1 : t < 18446744073709551616) {x : BitVec 64} (h : bv t = x) : t = (x.toNat : Int) := by
  subst h; rw [bv_toNat]; omega
end Go.Proofs.YtecclemkfdibbaaRL
